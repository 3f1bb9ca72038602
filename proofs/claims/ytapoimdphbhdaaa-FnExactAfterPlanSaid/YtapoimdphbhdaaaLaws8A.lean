/- The walks of the exact laws of chapter 8. -/
import Derived.Test.YtapoimdphbhdaaaLawFns
import Derived.Test.YtapoimdphbhdaaaAfter2
namespace Go.Proofs.Ytapoimdphbhdaaa
open Go.RowKit
set_option linter.unusedVariables false
set_option linter.unusedSimpArgs false
theorem undoL_le (xs : List Int) : (undoL xs).length ≤ xs.length := by unfold undoL; split; rw [neg_length]; exact Nat.le_refl _; simp
theorem apL_le (xs s ts : List Int) : (apL xs s ts).length ≤ xs.length := by
  unfold apL; split
  · split
    · split
      · rw [afterF_length]; omega
      · simp
    · simp
  · simp
set_option maxHeartbeats 2000000 in
theorem FnExactAreDeviations_walk (a0 : Option Addr) (c0 : Nat) (x0 : List Int) (w : World) (h0 : IntsAt w a0 x0) :
    Calls Try.prog 3 #[.slice a0 x0.length c0] w (RetT w) := by
  by_cases hl0 : x0.length ≤ 1048576
  case neg =>
    have hg0 : (1048576 : Int) < (x0.length : Int) := by omega
    go_enter Try.func3, Try.ntmps3
    go_wp2_with fail
    go_ret
    exact ⟨rfl, Upd.refl _⟩
  have H0 : Hid (∀ w1, Upd [] w w1 → IntsAt w1 a0 x0) := fun w1 u => h0.kept0 u
  clear h0
  have UW : Hid (Upd [] w w) := Upd.refl w
  go_enter Try.func3, Try.ntmps3
  go_wp2_with fail
  refine (toInt64S_c _ _ _ _ (H0.out _ UW.out) hl0).mono ?_
  rintro e w1 ⟨v, rfl, hO, hU⟩
  obtain ⟨bs0, ds0, rfl, -, -⟩ := hO.intsAt
  have Ls0 := Lib.hid (World.ownsRow.lt (w := w1) hO)
  have sw1 : w.heap.size ≤ w1.heap.size := hU.size
  replace UW := Lib.hid (UW.out.then0 hU)
  have Os0 := Lib.hid hO
  clear hO hU
  go_wp2_with fail
  refine (sAreDeviations_c _ _ _ _ (Os0.out.ints) hl0).mono ?_
  rintro e w' ⟨rfl, rfl⟩
  clear Os0 Ls0
  go_wp2_with fail
  refine (toInt64S_c _ _ _ _ (H0.out _ UW.out) hl0).mono ?_
  rintro e w2 ⟨v, rfl, hO, hU⟩
  obtain ⟨bx0, dx0, rfl, -, -⟩ := hO.intsAt
  have Lx0 := Lib.hid (World.ownsRow.lt (w := w2) hO)
  have sw2 : w1.heap.size ≤ w2.heap.size := hU.size
  replace UW := Lib.hid (UW.out.then0 hU)
  have Ox0 := Lib.hid hO
  clear hO hU
  go_wp2_with fail
  refine (iAreDeviations_c _ _ _ _ (Ox0.out.ints) hl0).mono ?_
  rintro e w' ⟨rfl, rfl⟩
  go_wp2_with fail
  refine (toInt64S_c _ _ _ _ (H0.out _ UW.out) hl0).mono ?_
  rintro e w3 ⟨v, rfl, hO, hU⟩
  obtain ⟨bt0, dt0, rfl, -, -⟩ := hO.intsAt
  have Lt0 := Lib.hid (World.ownsRow.lt (w := w3) hO)
  have sw3 : w2.heap.size ≤ w3.heap.size := hU.size
  replace Ox0 := Lib.hid (Ox0.out.kept0 hU)
  replace UW := Lib.hid (UW.out.then0 hU)
  have Ot0 := Lib.hid hO
  clear hO hU
  go_wp2_with fail
  refine (eqInt64S_c _ _ _ _ _ _ (Ox0.out.ints) (Ot0.out.ints) hl0).mono ?_
  rintro e w4 ⟨rfl, hU⟩
  have sw4 : w3.heap.size ≤ w4.heap.size := hU.size
  replace Ox0 := Lib.hid (Ox0.out.kept0 hU)
  replace Ot0 := Lib.hid (Ot0.out.kept0 hU)
  replace UW := Lib.hid (UW.out.then0 hU)
  clear hU
  clear Ot0 Lt0
  go_wp2_with fail
  go_ret
  exact ⟨rfl, UW.out⟩
set_option maxHeartbeats 2000000 in
theorem FnExactIsEffect_walk (a0 : Option Addr) (c0 : Nat) (x0 : List Int) (w : World) (h0 : IntsAt w a0 x0) :
    Calls Try.prog 4 #[.slice a0 x0.length c0] w (RetT w) := by
  by_cases hl0 : x0.length ≤ 1048576
  case neg =>
    have hg0 : (1048576 : Int) < (x0.length : Int) := by omega
    go_enter Try.func4, Try.ntmps4
    go_wp2_with fail
    go_ret
    exact ⟨rfl, Upd.refl _⟩
  have H0 : Hid (∀ w1, Upd [] w w1 → IntsAt w1 a0 x0) := fun w1 u => h0.kept0 u
  clear h0
  have UW : Hid (Upd [] w w) := Upd.refl w
  go_enter Try.func4, Try.ntmps4
  go_wp2_with fail
  refine (toInt64S_c _ _ _ _ (H0.out _ UW.out) hl0).mono ?_
  rintro e w1 ⟨v, rfl, hO, hU⟩
  obtain ⟨bs0, ds0, rfl, -, -⟩ := hO.intsAt
  have Ls0 := Lib.hid (World.ownsRow.lt (w := w1) hO)
  have sw1 : w.heap.size ≤ w1.heap.size := hU.size
  replace UW := Lib.hid (UW.out.then0 hU)
  have Os0 := Lib.hid hO
  clear hO hU
  go_wp2_with fail
  refine (sIsEffect_c _ _ _ _ (Os0.out.ints) hl0).mono ?_
  rintro e w' ⟨rfl, rfl⟩
  clear Os0 Ls0
  go_wp2_with fail
  refine (toInt64S_c _ _ _ _ (H0.out _ UW.out) hl0).mono ?_
  rintro e w2 ⟨v, rfl, hO, hU⟩
  obtain ⟨bx0, dx0, rfl, -, -⟩ := hO.intsAt
  have Lx0 := Lib.hid (World.ownsRow.lt (w := w2) hO)
  have sw2 : w1.heap.size ≤ w2.heap.size := hU.size
  replace UW := Lib.hid (UW.out.then0 hU)
  have Ox0 := Lib.hid hO
  clear hO hU
  go_wp2_with fail
  refine (iIsEffect_c _ _ _ _ (Ox0.out.ints) hl0).mono ?_
  rintro e w' ⟨rfl, rfl⟩
  go_wp2_with fail
  refine (toInt64S_c _ _ _ _ (H0.out _ UW.out) hl0).mono ?_
  rintro e w3 ⟨v, rfl, hO, hU⟩
  obtain ⟨bt0, dt0, rfl, -, -⟩ := hO.intsAt
  have Lt0 := Lib.hid (World.ownsRow.lt (w := w3) hO)
  have sw3 : w2.heap.size ≤ w3.heap.size := hU.size
  replace Ox0 := Lib.hid (Ox0.out.kept0 hU)
  replace UW := Lib.hid (UW.out.then0 hU)
  have Ot0 := Lib.hid hO
  clear hO hU
  go_wp2_with fail
  refine (eqInt64S_c _ _ _ _ _ _ (Ox0.out.ints) (Ot0.out.ints) hl0).mono ?_
  rintro e w4 ⟨rfl, hU⟩
  have sw4 : w3.heap.size ≤ w4.heap.size := hU.size
  replace Ox0 := Lib.hid (Ox0.out.kept0 hU)
  replace Ot0 := Lib.hid (Ot0.out.kept0 hU)
  replace UW := Lib.hid (UW.out.then0 hU)
  clear hU
  clear Ot0 Lt0
  go_wp2_with fail
  go_ret
  exact ⟨rfl, UW.out⟩
set_option maxHeartbeats 2000000 in
theorem FnExactWorstPlace_walk (a0 : Option Addr) (c0 : Nat) (x0 : List Int) (w : World) (h0 : IntsAt w a0 x0) :
    Calls Try.prog 5 #[.slice a0 x0.length c0] w (RetT w) := by
  by_cases hl0 : x0.length ≤ 1048576
  case neg =>
    have hg0 : (1048576 : Int) < (x0.length : Int) := by omega
    go_enter Try.func5, Try.ntmps5
    go_wp2_with fail
    go_ret
    exact ⟨rfl, Upd.refl _⟩
  have H0 : Hid (∀ w1, Upd [] w w1 → IntsAt w1 a0 x0) := fun w1 u => h0.kept0 u
  clear h0
  have UW : Hid (Upd [] w w) := Upd.refl w
  go_enter Try.func5, Try.ntmps5
  go_wp2_with fail
  refine (toInt64S_c _ _ _ _ (H0.out _ UW.out) hl0).mono ?_
  rintro e w1 ⟨v, rfl, hO, hU⟩
  obtain ⟨bs0, ds0, rfl, -, -⟩ := hO.intsAt
  have Ls0 := Lib.hid (World.ownsRow.lt (w := w1) hO)
  have sw1 : w.heap.size ≤ w1.heap.size := hU.size
  replace UW := Lib.hid (UW.out.then0 hU)
  have Os0 := Lib.hid hO
  clear hO hU
  go_wp2_with fail
  refine (sWorstPlace_c _ _ _ _ (Os0.out.ints) hl0).mono ?_
  rintro e w2 ⟨rfl, hU⟩
  have sw2 : w1.heap.size ≤ w2.heap.size := hU.size
  replace Os0 := Lib.hid (Os0.out.kept0 hU)
  replace UW := Lib.hid (UW.out.then0 hU)
  clear hU
  clear Os0 Ls0
  go_wp2_with fail
  refine (toInt64S_c _ _ _ _ (H0.out _ UW.out) hl0).mono ?_
  rintro e w3 ⟨v, rfl, hO, hU⟩
  obtain ⟨bx0, dx0, rfl, -, -⟩ := hO.intsAt
  have Lx0 := Lib.hid (World.ownsRow.lt (w := w3) hO)
  have sw3 : w2.heap.size ≤ w3.heap.size := hU.size
  replace UW := Lib.hid (UW.out.then0 hU)
  have Ox0 := Lib.hid hO
  clear hO hU
  go_wp2_with fail
  refine (iWorstPlace_c _ _ _ _ (Ox0.out.ints) hl0).mono ?_
  rintro e w4 ⟨rfl, hU⟩
  have sw4 : w3.heap.size ≤ w4.heap.size := hU.size
  replace Ox0 := Lib.hid (Ox0.out.kept0 hU)
  replace UW := Lib.hid (UW.out.then0 hU)
  clear hU
  go_wp2_with fail
  refine (toInt64S_c _ _ _ _ (H0.out _ UW.out) hl0).mono ?_
  rintro e w5 ⟨v, rfl, hO, hU⟩
  obtain ⟨bt0, dt0, rfl, -, -⟩ := hO.intsAt
  have Lt0 := Lib.hid (World.ownsRow.lt (w := w5) hO)
  have sw5 : w4.heap.size ≤ w5.heap.size := hU.size
  replace Ox0 := Lib.hid (Ox0.out.kept0 hU)
  replace UW := Lib.hid (UW.out.then0 hU)
  have Ot0 := Lib.hid hO
  clear hO hU
  go_wp2_with fail
  refine (eqInt64S_c _ _ _ _ _ _ (Ox0.out.ints) (Ot0.out.ints) hl0).mono ?_
  rintro e w6 ⟨rfl, hU⟩
  have sw6 : w5.heap.size ≤ w6.heap.size := hU.size
  replace Ox0 := Lib.hid (Ox0.out.kept0 hU)
  replace Ot0 := Lib.hid (Ot0.out.kept0 hU)
  replace UW := Lib.hid (UW.out.then0 hU)
  clear hU
  clear Ot0 Lt0
  go_wp2_with fail
  go_ret
  exact ⟨rfl, UW.out⟩
set_option maxHeartbeats 2000000 in
theorem FnExactDishAfter_walk (a0 : Option Addr) (c0 : Nat) (x0 : List Int) (w : World) (h0 : IntsAt w a0 x0) :
    Calls Try.prog 8 #[.slice a0 x0.length c0] w (RetT w) := by
  by_cases hl0 : x0.length ≤ 1048576
  case neg =>
    have hg0 : (1048576 : Int) < (x0.length : Int) := by omega
    go_enter Try.func8, Try.ntmps8
    go_wp2_with fail
    go_ret
    exact ⟨rfl, Upd.refl _⟩
  have H0 : Hid (∀ w1, Upd [] w w1 → IntsAt w1 a0 x0) := fun w1 u => h0.kept0 u
  clear h0
  have UW : Hid (Upd [] w w) := Upd.refl w
  go_enter Try.func8, Try.ntmps8
  go_wp2_with fail
  refine (toInt64S_c _ _ _ _ (H0.out _ UW.out) hl0).mono ?_
  rintro e w1 ⟨v, rfl, hO, hU⟩
  obtain ⟨bs0, ds0, rfl, -, -⟩ := hO.intsAt
  have Ls0 := Lib.hid (World.ownsRow.lt (w := w1) hO)
  have sw1 : w.heap.size ≤ w1.heap.size := hU.size
  replace UW := Lib.hid (UW.out.then0 hU)
  have Os0 := Lib.hid hO
  clear hO hU
  go_wp2_with fail
  refine (sDishAfter_c _ _ _ _ (Os0.out.ints) hl0).mono ?_
  rintro e w' ⟨rfl, rfl⟩
  clear Os0 Ls0
  go_wp2_with fail
  refine (toInt64S_c _ _ _ _ (H0.out _ UW.out) hl0).mono ?_
  rintro e w2 ⟨v, rfl, hO, hU⟩
  obtain ⟨bx0, dx0, rfl, -, -⟩ := hO.intsAt
  have Lx0 := Lib.hid (World.ownsRow.lt (w := w2) hO)
  have sw2 : w1.heap.size ≤ w2.heap.size := hU.size
  replace UW := Lib.hid (UW.out.then0 hU)
  have Ox0 := Lib.hid hO
  clear hO hU
  go_wp2_with fail
  refine (iDishAfter_c _ _ _ _ (Ox0.out.ints) hl0).mono ?_
  rintro e w' ⟨rfl, rfl⟩
  go_wp2_with fail
  refine (toInt64S_c _ _ _ _ (H0.out _ UW.out) hl0).mono ?_
  rintro e w3 ⟨v, rfl, hO, hU⟩
  obtain ⟨bt0, dt0, rfl, -, -⟩ := hO.intsAt
  have Lt0 := Lib.hid (World.ownsRow.lt (w := w3) hO)
  have sw3 : w2.heap.size ≤ w3.heap.size := hU.size
  replace Ox0 := Lib.hid (Ox0.out.kept0 hU)
  replace UW := Lib.hid (UW.out.then0 hU)
  have Ot0 := Lib.hid hO
  clear hO hU
  go_wp2_with fail
  refine (eqInt64S_c _ _ _ _ _ _ (Ox0.out.ints) (Ot0.out.ints) hl0).mono ?_
  rintro e w4 ⟨rfl, hU⟩
  have sw4 : w3.heap.size ≤ w4.heap.size := hU.size
  replace Ox0 := Lib.hid (Ox0.out.kept0 hU)
  replace Ot0 := Lib.hid (Ot0.out.kept0 hU)
  replace UW := Lib.hid (UW.out.then0 hU)
  clear hU
  clear Ot0 Lt0
  go_wp2_with fail
  go_ret
  exact ⟨rfl, UW.out⟩
set_option maxHeartbeats 2000000 in
theorem FnExactIsTrue_walk (a0 : Option Addr) (c0 : Nat) (x0 : List Int) (n1 : Int) (w : World) (h0 : IntsAt w a0 x0) :
    Calls Try.prog 7 #[.slice a0 x0.length c0, .int .i64 n1] w (RetT w) := by
  by_cases hl0 : x0.length ≤ 1048576
  case neg =>
    have hg0 : (1048576 : Int) < (x0.length : Int) := by omega
    go_enter Try.func7, Try.ntmps7
    go_wp2_with fail
    go_ret
    exact ⟨rfl, Upd.refl _⟩
  have H0 : Hid (∀ w1, Upd [] w w1 → IntsAt w1 a0 x0) := fun w1 u => h0.kept0 u
  clear h0
  have UW : Hid (Upd [] w w) := Upd.refl w
  go_enter Try.func7, Try.ntmps7
  go_wp2_with fail
  refine (toInt64S_c _ _ _ _ (H0.out _ UW.out) hl0).mono ?_
  rintro e w1 ⟨v, rfl, hO, hU⟩
  obtain ⟨bs0, ds0, rfl, -, -⟩ := hO.intsAt
  have Ls0 := Lib.hid (World.ownsRow.lt (w := w1) hO)
  have sw1 : w.heap.size ≤ w1.heap.size := hU.size
  replace UW := Lib.hid (UW.out.then0 hU)
  have Os0 := Lib.hid hO
  clear hO hU
  go_wp2_with fail
  refine (sIsTrue_c _ _ _ _ _ (Os0.out.ints) hl0).mono ?_
  rintro e w2 ⟨rfl, hU⟩
  have sw2 : w1.heap.size ≤ w2.heap.size := hU.size
  replace Os0 := Lib.hid (Os0.out.kept0 hU)
  replace UW := Lib.hid (UW.out.then0 hU)
  clear hU
  clear Os0 Ls0
  go_wp2_with fail
  refine (toInt64S_c _ _ _ _ (H0.out _ UW.out) hl0).mono ?_
  rintro e w3 ⟨v, rfl, hO, hU⟩
  obtain ⟨bx0, dx0, rfl, -, -⟩ := hO.intsAt
  have Lx0 := Lib.hid (World.ownsRow.lt (w := w3) hO)
  have sw3 : w2.heap.size ≤ w3.heap.size := hU.size
  replace UW := Lib.hid (UW.out.then0 hU)
  have Ox0 := Lib.hid hO
  clear hO hU
  go_wp2_with fail
  refine (iIsTrue_c _ _ _ _ _ (Ox0.out.ints) hl0).mono ?_
  rintro e w4 ⟨rfl, hU⟩
  have sw4 : w3.heap.size ≤ w4.heap.size := hU.size
  replace Ox0 := Lib.hid (Ox0.out.kept0 hU)
  replace UW := Lib.hid (UW.out.then0 hU)
  clear hU
  go_wp2_with fail
  refine (toInt64S_c _ _ _ _ (H0.out _ UW.out) hl0).mono ?_
  rintro e w5 ⟨v, rfl, hO, hU⟩
  obtain ⟨bt0, dt0, rfl, -, -⟩ := hO.intsAt
  have Lt0 := Lib.hid (World.ownsRow.lt (w := w5) hO)
  have sw5 : w4.heap.size ≤ w5.heap.size := hU.size
  replace Ox0 := Lib.hid (Ox0.out.kept0 hU)
  replace UW := Lib.hid (UW.out.then0 hU)
  have Ot0 := Lib.hid hO
  clear hO hU
  go_wp2_with fail
  refine (eqInt64S_c _ _ _ _ _ _ (Ox0.out.ints) (Ot0.out.ints) hl0).mono ?_
  rintro e w6 ⟨rfl, hU⟩
  have sw6 : w5.heap.size ≤ w6.heap.size := hU.size
  replace Ox0 := Lib.hid (Ox0.out.kept0 hU)
  replace Ot0 := Lib.hid (Ot0.out.kept0 hU)
  replace UW := Lib.hid (UW.out.then0 hU)
  clear hU
  clear Ot0 Lt0
  go_wp2_with fail
  go_ret
  exact ⟨rfl, UW.out⟩
set_option maxHeartbeats 2000000 in
theorem FnExactUndoPlan_walk (a0 : Option Addr) (c0 : Nat) (x0 : List Int) (w : World) (h0 : IntsAt w a0 x0) :
    Calls Try.prog 6 #[.slice a0 x0.length c0] w (RetT w) := by
  by_cases hl0 : x0.length ≤ 1048576
  case neg =>
    have hg0 : (1048576 : Int) < (x0.length : Int) := by omega
    go_enter Try.func6, Try.ntmps6
    go_wp2_with fail
    go_ret
    exact ⟨rfl, Upd.refl _⟩
  have H0 : Hid (∀ w1, Upd [] w w1 → IntsAt w1 a0 x0) := fun w1 u => h0.kept0 u
  clear h0
  have hr : (undoL x0).length ≤ 1048576 := Nat.le_trans (undoL_le x0) hl0
  have UW : Hid (Upd [] w w) := Upd.refl w
  go_enter Try.func6, Try.ntmps6
  go_wp2_with fail
  refine (toInt64S_c _ _ _ _ (H0.out _ UW.out) hl0).mono ?_
  rintro e w1 ⟨v, rfl, hO, hU⟩
  obtain ⟨bs0, ds0, rfl, -, -⟩ := hO.intsAt
  have Ls0 := Lib.hid (World.ownsRow.lt (w := w1) hO)
  have sw1 : w.heap.size ≤ w1.heap.size := hU.size
  replace UW := Lib.hid (UW.out.then0 hU)
  have Os0 := Lib.hid hO
  clear hO hU
  go_wp2_with fail
  refine (sUndoPlan_c _ _ _ _ (Os0.out.ints) hl0).mono ?_
  rintro e w2 ⟨v, rfl, hO, hU⟩
  obtain ⟨bR, dR, rfl, -, -⟩ := hO.intsAt
  have LR := Lib.hid (World.ownsRow.lt (w := w2) hO)
  have sw2 : w1.heap.size ≤ w2.heap.size := hU.size
  replace Os0 := Lib.hid (Os0.out.kept0 hU)
  replace UW := Lib.hid (UW.out.then0 hU)
  have OR := Lib.hid hO
  clear hO hU
  clear Os0 Ls0
  go_wp2_with fail
  refine (toInt64S_c _ _ _ _ (H0.out _ UW.out) hl0).mono ?_
  rintro e w3 ⟨v, rfl, hO, hU⟩
  obtain ⟨bx0, dx0, rfl, -, -⟩ := hO.intsAt
  have Lx0 := Lib.hid (World.ownsRow.lt (w := w3) hO)
  have sw3 : w2.heap.size ≤ w3.heap.size := hU.size
  replace OR := Lib.hid (OR.out.kept0 hU)
  replace UW := Lib.hid (UW.out.then0 hU)
  have Ox0 := Lib.hid hO
  clear hO hU
  go_wp2_with fail
  refine (iUndoPlan_c _ _ _ _ (Ox0.out.ints) hl0).mono ?_
  rintro e w4 ⟨v, rfl, hO, hU⟩
  obtain ⟨bG, dG, rfl, -, -⟩ := hO.intsAt
  have LG := Lib.hid (World.ownsRow.lt (w := w4) hO)
  have sw4 : w3.heap.size ≤ w4.heap.size := hU.size
  replace OR := Lib.hid (OR.out.kept0 hU)
  replace Ox0 := Lib.hid (Ox0.out.kept0 hU)
  replace UW := Lib.hid (UW.out.then0 hU)
  have OG := Lib.hid hO
  clear hO hU
  go_wp2_with fail
  refine (eqInt64S_c _ _ _ _ _ _ (OG.out.ints) (OR.out.ints) hr).mono ?_
  rintro e w5 ⟨rfl, hU⟩
  have sw5 : w4.heap.size ≤ w5.heap.size := hU.size
  replace OR := Lib.hid (OR.out.kept0 hU)
  replace Ox0 := Lib.hid (Ox0.out.kept0 hU)
  replace OG := Lib.hid (OG.out.kept0 hU)
  replace UW := Lib.hid (UW.out.then0 hU)
  clear hU
  go_wp2_with fail
  refine (toInt64S_c _ _ _ _ (H0.out _ UW.out) hl0).mono ?_
  rintro e w6 ⟨v, rfl, hO, hU⟩
  obtain ⟨bt0, dt0, rfl, -, -⟩ := hO.intsAt
  have Lt0 := Lib.hid (World.ownsRow.lt (w := w6) hO)
  have sw6 : w5.heap.size ≤ w6.heap.size := hU.size
  replace OR := Lib.hid (OR.out.kept0 hU)
  replace Ox0 := Lib.hid (Ox0.out.kept0 hU)
  replace OG := Lib.hid (OG.out.kept0 hU)
  replace UW := Lib.hid (UW.out.then0 hU)
  have Ot0 := Lib.hid hO
  clear hO hU
  go_wp2_with fail
  refine (eqInt64S_c _ _ _ _ _ _ (Ox0.out.ints) (Ot0.out.ints) hl0).mono ?_
  rintro e w7 ⟨rfl, hU⟩
  have sw7 : w6.heap.size ≤ w7.heap.size := hU.size
  replace OR := Lib.hid (OR.out.kept0 hU)
  replace Ox0 := Lib.hid (Ox0.out.kept0 hU)
  replace OG := Lib.hid (OG.out.kept0 hU)
  replace Ot0 := Lib.hid (Ot0.out.kept0 hU)
  replace UW := Lib.hid (UW.out.then0 hU)
  clear hU
  clear Ot0 Lt0
  go_wp2_with fail
  refine (markInt64S_c _ _ _ _ _ Ox0.out hl0 (by omega)).mono ?_
  rintro e w8 ⟨rfl, hO, hU⟩
  have sw8 : w7.heap.size ≤ w8.heap.size := hU.size
  replace OR := Lib.hid (OR.out.apart hU Lx0.out LR.out (by omega))
  replace OG := Lib.hid (OG.out.apart hU Lx0.out LG.out (by omega))
  replace UW := Lib.hid (UW.out.afterOwn hU (fun k hk => Nat.le_trans (by omega) (Lx0.out k hk).1))
  replace Ox0 := Lib.hid hO
  clear hO hU
  go_wp2_with fail
  refine (eqInt64S_c _ _ _ _ _ _ (OG.out.ints) (OR.out.ints) hr).mono ?_
  rintro e w9 ⟨rfl, hU⟩
  have sw9 : w8.heap.size ≤ w9.heap.size := hU.size
  replace OR := Lib.hid (OR.out.kept0 hU)
  replace Ox0 := Lib.hid (Ox0.out.kept0 hU)
  replace OG := Lib.hid (OG.out.kept0 hU)
  replace UW := Lib.hid (UW.out.then0 hU)
  clear hU
  clear Ox0 Lx0
  go_wp2_with fail
  refine (markInt64S_c _ _ _ _ _ OG.out hr (by omega)).mono ?_
  rintro e w10 ⟨rfl, hO, hU⟩
  have sw10 : w9.heap.size ≤ w10.heap.size := hU.size
  replace OR := Lib.hid (OR.out.apart hU LG.out LR.out (by omega))
  replace UW := Lib.hid (UW.out.afterOwn hU (fun k hk => Nat.le_trans (by omega) (LG.out k hk).1))
  replace OG := Lib.hid hO
  clear hO hU
  go_wp2_with fail
  refine (heldInt64S_c _ _ _ _ _ (OG.out.ints) hr (by omega)).mono ?_
  rintro e w' ⟨rfl, rfl⟩
  go_wp2_with fail
  refine (toInt64S_c _ _ _ _ (H0.out _ UW.out) hl0).mono ?_
  rintro e w12 ⟨v, rfl, hO, hU⟩
  obtain ⟨by0, dy0, rfl, -, -⟩ := hO.intsAt
  have Ly0 := Lib.hid (World.ownsRow.lt (w := w12) hO)
  have sw12 : w10.heap.size ≤ w12.heap.size := hU.size
  replace OR := Lib.hid (OR.out.kept0 hU)
  replace OG := Lib.hid (OG.out.kept0 hU)
  replace UW := Lib.hid (UW.out.then0 hU)
  have Oy0 := Lib.hid hO
  clear hO hU
  go_wp2_with fail
  refine (iUndoPlan_c _ _ _ _ (Oy0.out.ints) hl0).mono ?_
  rintro e w13 ⟨v, rfl, hO, hU⟩
  obtain ⟨bK, dK, rfl, -, -⟩ := hO.intsAt
  have LK := Lib.hid (World.ownsRow.lt (w := w13) hO)
  have sw13 : w12.heap.size ≤ w13.heap.size := hU.size
  replace OR := Lib.hid (OR.out.kept0 hU)
  replace OG := Lib.hid (OG.out.kept0 hU)
  replace Oy0 := Lib.hid (Oy0.out.kept0 hU)
  replace UW := Lib.hid (UW.out.then0 hU)
  have OK := Lib.hid hO
  clear hO hU
  go_wp2_with fail
  refine (eqInt64S_c _ _ _ _ _ _ (OK.out.ints) (OR.out.ints) hr).mono ?_
  rintro e w14 ⟨rfl, hU⟩
  have sw14 : w13.heap.size ≤ w14.heap.size := hU.size
  replace OR := Lib.hid (OR.out.kept0 hU)
  replace OG := Lib.hid (OG.out.kept0 hU)
  replace Oy0 := Lib.hid (Oy0.out.kept0 hU)
  replace OK := Lib.hid (OK.out.kept0 hU)
  replace UW := Lib.hid (UW.out.then0 hU)
  clear hU
  go_wp2_with fail
  refine (heldInt64S_c _ _ _ _ _ (OG.out.ints) hr (by omega)).mono ?_
  rintro e w' ⟨rfl, rfl⟩
  go_wp2_with fail
  go_ret
  exact ⟨rfl, UW.out⟩
set_option maxHeartbeats 2000000 in
theorem FnExactAfterPlan_walk (a0 : Option Addr) (c0 : Nat) (x0 : List Int) (a1 : Option Addr) (c1 : Nat) (x1 : List Int) (a2 : Option Addr) (c2 : Nat) (x2 : List Int) (w : World) (h0 : IntsAt w a0 x0) (h1 : IntsAt w a1 x1) (h2 : IntsAt w a2 x2) :
    Calls Try.prog 9 #[.slice a0 x0.length c0, .slice a1 x1.length c1, .slice a2 x2.length c2] w (RetT w) := by
  by_cases hl0 : x0.length ≤ 1048576
  case neg =>
    have hg0 : (1048576 : Int) < (x0.length : Int) := by omega
    go_enter Try.func9, Try.ntmps9
    go_wp2_with fail
    go_ret
    exact ⟨rfl, Upd.refl _⟩
  by_cases hl1 : x1.length ≤ 1048576
  case neg =>
    have hg1 : (1048576 : Int) < (x1.length : Int) := by omega
    go_enter Try.func9, Try.ntmps9
    go_wp2_with fail
    go_ret
    exact ⟨rfl, Upd.refl _⟩
  by_cases hl2 : x2.length ≤ 1048576
  case neg =>
    have hg2 : (1048576 : Int) < (x2.length : Int) := by omega
    go_enter Try.func9, Try.ntmps9
    go_wp2_with fail
    go_ret
    exact ⟨rfl, Upd.refl _⟩
  have H0 : Hid (∀ w1, Upd [] w w1 → IntsAt w1 a0 x0) := fun w1 u => h0.kept0 u
  have H1 : Hid (∀ w1, Upd [] w w1 → IntsAt w1 a1 x1) := fun w1 u => h1.kept0 u
  have H2 : Hid (∀ w1, Upd [] w w1 → IntsAt w1 a2 x2) := fun w1 u => h2.kept0 u
  clear h0 h1 h2
  have hr : (apL x0 x1 x2).length ≤ 1048576 := Nat.le_trans (apL_le x0 x1 x2) hl0
  have UW : Hid (Upd [] w w) := Upd.refl w
  go_enter Try.func9, Try.ntmps9
  go_wp2_with fail
  refine (toInt64S_c _ _ _ _ (H0.out _ UW.out) hl0).mono ?_
  rintro e w1 ⟨v, rfl, hO, hU⟩
  obtain ⟨bs0, ds0, rfl, -, -⟩ := hO.intsAt
  have Ls0 := Lib.hid (World.ownsRow.lt (w := w1) hO)
  have sw1 : w.heap.size ≤ w1.heap.size := hU.size
  replace UW := Lib.hid (UW.out.then0 hU)
  have Os0 := Lib.hid hO
  clear hO hU
  go_wp2_with fail
  refine (toInt64S_c _ _ _ _ (H1.out _ UW.out) hl1).mono ?_
  rintro e w2 ⟨v, rfl, hO, hU⟩
  obtain ⟨bs1, ds1, rfl, -, -⟩ := hO.intsAt
  have Ls1 := Lib.hid (World.ownsRow.lt (w := w2) hO)
  have sw2 : w1.heap.size ≤ w2.heap.size := hU.size
  replace Os0 := Lib.hid (Os0.out.kept0 hU)
  replace UW := Lib.hid (UW.out.then0 hU)
  have Os1 := Lib.hid hO
  clear hO hU
  go_wp2_with fail
  refine (toInt64S_c _ _ _ _ (H2.out _ UW.out) hl2).mono ?_
  rintro e w3 ⟨v, rfl, hO, hU⟩
  obtain ⟨bs2, ds2, rfl, -, -⟩ := hO.intsAt
  have Ls2 := Lib.hid (World.ownsRow.lt (w := w3) hO)
  have sw3 : w2.heap.size ≤ w3.heap.size := hU.size
  replace Os0 := Lib.hid (Os0.out.kept0 hU)
  replace Os1 := Lib.hid (Os1.out.kept0 hU)
  replace UW := Lib.hid (UW.out.then0 hU)
  have Os2 := Lib.hid hO
  clear hO hU
  go_wp2_with fail
  refine (sAfterPlan_c _ _ _ _ _ _ _ _ _ _ (Os0.out.ints) (Os1.out.ints) (Os2.out.ints) hl0 hl1 hl2).mono ?_
  rintro e w4 ⟨v, rfl, hO, hU⟩
  obtain ⟨bR, dR, rfl, -, -⟩ := hO.intsAt
  have LR := Lib.hid (World.ownsRow.lt (w := w4) hO)
  have sw4 : w3.heap.size ≤ w4.heap.size := hU.size
  replace Os0 := Lib.hid (Os0.out.kept0 hU)
  replace Os1 := Lib.hid (Os1.out.kept0 hU)
  replace Os2 := Lib.hid (Os2.out.kept0 hU)
  replace UW := Lib.hid (UW.out.then0 hU)
  have OR := Lib.hid hO
  clear hO hU
  clear Os0 Ls0
  clear Os1 Ls1
  clear Os2 Ls2
  go_wp2_with fail
  refine (toInt64S_c _ _ _ _ (H0.out _ UW.out) hl0).mono ?_
  rintro e w5 ⟨v, rfl, hO, hU⟩
  obtain ⟨bx0, dx0, rfl, -, -⟩ := hO.intsAt
  have Lx0 := Lib.hid (World.ownsRow.lt (w := w5) hO)
  have sw5 : w4.heap.size ≤ w5.heap.size := hU.size
  replace OR := Lib.hid (OR.out.kept0 hU)
  replace UW := Lib.hid (UW.out.then0 hU)
  have Ox0 := Lib.hid hO
  clear hO hU
  go_wp2_with fail
  refine (toInt64S_c _ _ _ _ (H1.out _ UW.out) hl1).mono ?_
  rintro e w6 ⟨v, rfl, hO, hU⟩
  obtain ⟨bx1, dx1, rfl, -, -⟩ := hO.intsAt
  have Lx1 := Lib.hid (World.ownsRow.lt (w := w6) hO)
  have sw6 : w5.heap.size ≤ w6.heap.size := hU.size
  replace OR := Lib.hid (OR.out.kept0 hU)
  replace Ox0 := Lib.hid (Ox0.out.kept0 hU)
  replace UW := Lib.hid (UW.out.then0 hU)
  have Ox1 := Lib.hid hO
  clear hO hU
  go_wp2_with fail
  refine (toInt64S_c _ _ _ _ (H2.out _ UW.out) hl2).mono ?_
  rintro e w7 ⟨v, rfl, hO, hU⟩
  obtain ⟨bx2, dx2, rfl, -, -⟩ := hO.intsAt
  have Lx2 := Lib.hid (World.ownsRow.lt (w := w7) hO)
  have sw7 : w6.heap.size ≤ w7.heap.size := hU.size
  replace OR := Lib.hid (OR.out.kept0 hU)
  replace Ox0 := Lib.hid (Ox0.out.kept0 hU)
  replace Ox1 := Lib.hid (Ox1.out.kept0 hU)
  replace UW := Lib.hid (UW.out.then0 hU)
  have Ox2 := Lib.hid hO
  clear hO hU
  go_wp2_with fail
  refine (iAfterPlan_c _ _ _ _ _ _ _ _ _ _ (Ox0.out.ints) (Ox1.out.ints) (Ox2.out.ints) hl0 hl1 hl2).mono ?_
  rintro e w8 ⟨v, rfl, hO, hU⟩
  obtain ⟨bG, dG, rfl, -, -⟩ := hO.intsAt
  have LG := Lib.hid (World.ownsRow.lt (w := w8) hO)
  have sw8 : w7.heap.size ≤ w8.heap.size := hU.size
  replace OR := Lib.hid (OR.out.kept0 hU)
  replace Ox0 := Lib.hid (Ox0.out.kept0 hU)
  replace Ox1 := Lib.hid (Ox1.out.kept0 hU)
  replace Ox2 := Lib.hid (Ox2.out.kept0 hU)
  replace UW := Lib.hid (UW.out.then0 hU)
  have OG := Lib.hid hO
  clear hO hU
  go_wp2_with fail
  refine (eqInt64S_c _ _ _ _ _ _ (OG.out.ints) (OR.out.ints) hr).mono ?_
  rintro e w9 ⟨rfl, hU⟩
  have sw9 : w8.heap.size ≤ w9.heap.size := hU.size
  replace OR := Lib.hid (OR.out.kept0 hU)
  replace Ox0 := Lib.hid (Ox0.out.kept0 hU)
  replace Ox1 := Lib.hid (Ox1.out.kept0 hU)
  replace Ox2 := Lib.hid (Ox2.out.kept0 hU)
  replace OG := Lib.hid (OG.out.kept0 hU)
  replace UW := Lib.hid (UW.out.then0 hU)
  clear hU
  go_wp2_with fail
  refine (toInt64S_c _ _ _ _ (H0.out _ UW.out) hl0).mono ?_
  rintro e w10 ⟨v, rfl, hO, hU⟩
  obtain ⟨bt0, dt0, rfl, -, -⟩ := hO.intsAt
  have Lt0 := Lib.hid (World.ownsRow.lt (w := w10) hO)
  have sw10 : w9.heap.size ≤ w10.heap.size := hU.size
  replace OR := Lib.hid (OR.out.kept0 hU)
  replace Ox0 := Lib.hid (Ox0.out.kept0 hU)
  replace Ox1 := Lib.hid (Ox1.out.kept0 hU)
  replace Ox2 := Lib.hid (Ox2.out.kept0 hU)
  replace OG := Lib.hid (OG.out.kept0 hU)
  replace UW := Lib.hid (UW.out.then0 hU)
  have Ot0 := Lib.hid hO
  clear hO hU
  go_wp2_with fail
  refine (eqInt64S_c _ _ _ _ _ _ (Ox0.out.ints) (Ot0.out.ints) hl0).mono ?_
  rintro e w11 ⟨rfl, hU⟩
  have sw11 : w10.heap.size ≤ w11.heap.size := hU.size
  replace OR := Lib.hid (OR.out.kept0 hU)
  replace Ox0 := Lib.hid (Ox0.out.kept0 hU)
  replace Ox1 := Lib.hid (Ox1.out.kept0 hU)
  replace Ox2 := Lib.hid (Ox2.out.kept0 hU)
  replace OG := Lib.hid (OG.out.kept0 hU)
  replace Ot0 := Lib.hid (Ot0.out.kept0 hU)
  replace UW := Lib.hid (UW.out.then0 hU)
  clear hU
  clear Ot0 Lt0
  go_wp2_with fail
  refine (toInt64S_c _ _ _ _ (H1.out _ UW.out) hl1).mono ?_
  rintro e w12 ⟨v, rfl, hO, hU⟩
  obtain ⟨bt1, dt1, rfl, -, -⟩ := hO.intsAt
  have Lt1 := Lib.hid (World.ownsRow.lt (w := w12) hO)
  have sw12 : w11.heap.size ≤ w12.heap.size := hU.size
  replace OR := Lib.hid (OR.out.kept0 hU)
  replace Ox0 := Lib.hid (Ox0.out.kept0 hU)
  replace Ox1 := Lib.hid (Ox1.out.kept0 hU)
  replace Ox2 := Lib.hid (Ox2.out.kept0 hU)
  replace OG := Lib.hid (OG.out.kept0 hU)
  replace UW := Lib.hid (UW.out.then0 hU)
  have Ot1 := Lib.hid hO
  clear hO hU
  go_wp2_with fail
  refine (eqInt64S_c _ _ _ _ _ _ (Ox1.out.ints) (Ot1.out.ints) hl1).mono ?_
  rintro e w13 ⟨rfl, hU⟩
  have sw13 : w12.heap.size ≤ w13.heap.size := hU.size
  replace OR := Lib.hid (OR.out.kept0 hU)
  replace Ox0 := Lib.hid (Ox0.out.kept0 hU)
  replace Ox1 := Lib.hid (Ox1.out.kept0 hU)
  replace Ox2 := Lib.hid (Ox2.out.kept0 hU)
  replace OG := Lib.hid (OG.out.kept0 hU)
  replace Ot1 := Lib.hid (Ot1.out.kept0 hU)
  replace UW := Lib.hid (UW.out.then0 hU)
  clear hU
  clear Ot1 Lt1
  go_wp2_with fail
  refine (toInt64S_c _ _ _ _ (H2.out _ UW.out) hl2).mono ?_
  rintro e w14 ⟨v, rfl, hO, hU⟩
  obtain ⟨bt2, dt2, rfl, -, -⟩ := hO.intsAt
  have Lt2 := Lib.hid (World.ownsRow.lt (w := w14) hO)
  have sw14 : w13.heap.size ≤ w14.heap.size := hU.size
  replace OR := Lib.hid (OR.out.kept0 hU)
  replace Ox0 := Lib.hid (Ox0.out.kept0 hU)
  replace Ox1 := Lib.hid (Ox1.out.kept0 hU)
  replace Ox2 := Lib.hid (Ox2.out.kept0 hU)
  replace OG := Lib.hid (OG.out.kept0 hU)
  replace UW := Lib.hid (UW.out.then0 hU)
  have Ot2 := Lib.hid hO
  clear hO hU
  go_wp2_with fail
  refine (eqInt64S_c _ _ _ _ _ _ (Ox2.out.ints) (Ot2.out.ints) hl2).mono ?_
  rintro e w15 ⟨rfl, hU⟩
  have sw15 : w14.heap.size ≤ w15.heap.size := hU.size
  replace OR := Lib.hid (OR.out.kept0 hU)
  replace Ox0 := Lib.hid (Ox0.out.kept0 hU)
  replace Ox1 := Lib.hid (Ox1.out.kept0 hU)
  replace Ox2 := Lib.hid (Ox2.out.kept0 hU)
  replace OG := Lib.hid (OG.out.kept0 hU)
  replace Ot2 := Lib.hid (Ot2.out.kept0 hU)
  replace UW := Lib.hid (UW.out.then0 hU)
  clear hU
  clear Ot2 Lt2
  go_wp2_with fail
  refine (markInt64S_c _ _ _ _ _ Ox0.out hl0 (by omega)).mono ?_
  rintro e w16 ⟨rfl, hO, hU⟩
  have sw16 : w15.heap.size ≤ w16.heap.size := hU.size
  replace OR := Lib.hid (OR.out.apart hU Lx0.out LR.out (by omega))
  replace Ox1 := Lib.hid (Ox1.out.apart hU Lx0.out Lx1.out (by omega))
  replace Ox2 := Lib.hid (Ox2.out.apart hU Lx0.out Lx2.out (by omega))
  replace OG := Lib.hid (OG.out.apart hU Lx0.out LG.out (by omega))
  replace UW := Lib.hid (UW.out.afterOwn hU (fun k hk => Nat.le_trans (by omega) (Lx0.out k hk).1))
  replace Ox0 := Lib.hid hO
  clear hO hU
  go_wp2_with fail
  refine (markInt64S_c _ _ _ _ _ Ox1.out hl1 (by omega)).mono ?_
  rintro e w17 ⟨rfl, hO, hU⟩
  have sw17 : w16.heap.size ≤ w17.heap.size := hU.size
  replace OR := Lib.hid (OR.out.apart hU Lx1.out LR.out (by omega))
  replace Ox0 := Lib.hid (Ox0.out.apart hU Lx1.out Lx0.out (by omega))
  replace Ox2 := Lib.hid (Ox2.out.apart hU Lx1.out Lx2.out (by omega))
  replace OG := Lib.hid (OG.out.apart hU Lx1.out LG.out (by omega))
  replace UW := Lib.hid (UW.out.afterOwn hU (fun k hk => Nat.le_trans (by omega) (Lx1.out k hk).1))
  replace Ox1 := Lib.hid hO
  clear hO hU
  go_wp2_with fail
  refine (markInt64S_c _ _ _ _ _ Ox2.out hl2 (by omega)).mono ?_
  rintro e w18 ⟨rfl, hO, hU⟩
  have sw18 : w17.heap.size ≤ w18.heap.size := hU.size
  replace OR := Lib.hid (OR.out.apart hU Lx2.out LR.out (by omega))
  replace Ox0 := Lib.hid (Ox0.out.apart hU Lx2.out Lx0.out (by omega))
  replace Ox1 := Lib.hid (Ox1.out.apart hU Lx2.out Lx1.out (by omega))
  replace OG := Lib.hid (OG.out.apart hU Lx2.out LG.out (by omega))
  replace UW := Lib.hid (UW.out.afterOwn hU (fun k hk => Nat.le_trans (by omega) (Lx2.out k hk).1))
  replace Ox2 := Lib.hid hO
  clear hO hU
  go_wp2_with fail
  refine (eqInt64S_c _ _ _ _ _ _ (OG.out.ints) (OR.out.ints) hr).mono ?_
  rintro e w19 ⟨rfl, hU⟩
  have sw19 : w18.heap.size ≤ w19.heap.size := hU.size
  replace OR := Lib.hid (OR.out.kept0 hU)
  replace Ox0 := Lib.hid (Ox0.out.kept0 hU)
  replace Ox1 := Lib.hid (Ox1.out.kept0 hU)
  replace Ox2 := Lib.hid (Ox2.out.kept0 hU)
  replace OG := Lib.hid (OG.out.kept0 hU)
  replace UW := Lib.hid (UW.out.then0 hU)
  clear hU
  clear Ox0 Lx0
  clear Ox1 Lx1
  clear Ox2 Lx2
  go_wp2_with fail
  refine (markInt64S_c _ _ _ _ _ OG.out hr (by omega)).mono ?_
  rintro e w20 ⟨rfl, hO, hU⟩
  have sw20 : w19.heap.size ≤ w20.heap.size := hU.size
  replace OR := Lib.hid (OR.out.apart hU LG.out LR.out (by omega))
  replace UW := Lib.hid (UW.out.afterOwn hU (fun k hk => Nat.le_trans (by omega) (LG.out k hk).1))
  replace OG := Lib.hid hO
  clear hO hU
  go_wp2_with fail
  refine (heldInt64S_c _ _ _ _ _ (OG.out.ints) hr (by omega)).mono ?_
  rintro e w' ⟨rfl, rfl⟩
  go_wp2_with fail
  refine (toInt64S_c _ _ _ _ (H0.out _ UW.out) hl0).mono ?_
  rintro e w22 ⟨v, rfl, hO, hU⟩
  obtain ⟨by0, dy0, rfl, -, -⟩ := hO.intsAt
  have Ly0 := Lib.hid (World.ownsRow.lt (w := w22) hO)
  have sw22 : w20.heap.size ≤ w22.heap.size := hU.size
  replace OR := Lib.hid (OR.out.kept0 hU)
  replace OG := Lib.hid (OG.out.kept0 hU)
  replace UW := Lib.hid (UW.out.then0 hU)
  have Oy0 := Lib.hid hO
  clear hO hU
  go_wp2_with fail
  refine (toInt64S_c _ _ _ _ (H1.out _ UW.out) hl1).mono ?_
  rintro e w23 ⟨v, rfl, hO, hU⟩
  obtain ⟨by1, dy1, rfl, -, -⟩ := hO.intsAt
  have Ly1 := Lib.hid (World.ownsRow.lt (w := w23) hO)
  have sw23 : w22.heap.size ≤ w23.heap.size := hU.size
  replace OR := Lib.hid (OR.out.kept0 hU)
  replace OG := Lib.hid (OG.out.kept0 hU)
  replace Oy0 := Lib.hid (Oy0.out.kept0 hU)
  replace UW := Lib.hid (UW.out.then0 hU)
  have Oy1 := Lib.hid hO
  clear hO hU
  go_wp2_with fail
  refine (toInt64S_c _ _ _ _ (H2.out _ UW.out) hl2).mono ?_
  rintro e w24 ⟨v, rfl, hO, hU⟩
  obtain ⟨by2, dy2, rfl, -, -⟩ := hO.intsAt
  have Ly2 := Lib.hid (World.ownsRow.lt (w := w24) hO)
  have sw24 : w23.heap.size ≤ w24.heap.size := hU.size
  replace OR := Lib.hid (OR.out.kept0 hU)
  replace OG := Lib.hid (OG.out.kept0 hU)
  replace Oy0 := Lib.hid (Oy0.out.kept0 hU)
  replace Oy1 := Lib.hid (Oy1.out.kept0 hU)
  replace UW := Lib.hid (UW.out.then0 hU)
  have Oy2 := Lib.hid hO
  clear hO hU
  go_wp2_with fail
  refine (iAfterPlan_c _ _ _ _ _ _ _ _ _ _ (Oy0.out.ints) (Oy1.out.ints) (Oy2.out.ints) hl0 hl1 hl2).mono ?_
  rintro e w25 ⟨v, rfl, hO, hU⟩
  obtain ⟨bK, dK, rfl, -, -⟩ := hO.intsAt
  have LK := Lib.hid (World.ownsRow.lt (w := w25) hO)
  have sw25 : w24.heap.size ≤ w25.heap.size := hU.size
  replace OR := Lib.hid (OR.out.kept0 hU)
  replace OG := Lib.hid (OG.out.kept0 hU)
  replace Oy0 := Lib.hid (Oy0.out.kept0 hU)
  replace Oy1 := Lib.hid (Oy1.out.kept0 hU)
  replace Oy2 := Lib.hid (Oy2.out.kept0 hU)
  replace UW := Lib.hid (UW.out.then0 hU)
  have OK := Lib.hid hO
  clear hO hU
  go_wp2_with fail
  refine (eqInt64S_c _ _ _ _ _ _ (OK.out.ints) (OR.out.ints) hr).mono ?_
  rintro e w26 ⟨rfl, hU⟩
  have sw26 : w25.heap.size ≤ w26.heap.size := hU.size
  replace OR := Lib.hid (OR.out.kept0 hU)
  replace OG := Lib.hid (OG.out.kept0 hU)
  replace Oy0 := Lib.hid (Oy0.out.kept0 hU)
  replace Oy1 := Lib.hid (Oy1.out.kept0 hU)
  replace Oy2 := Lib.hid (Oy2.out.kept0 hU)
  replace OK := Lib.hid (OK.out.kept0 hU)
  replace UW := Lib.hid (UW.out.then0 hU)
  clear hU
  go_wp2_with fail
  refine (heldInt64S_c _ _ _ _ _ (OG.out.ints) hr (by omega)).mono ?_
  rintro e w' ⟨rfl, rfl⟩
  go_wp2_with fail
  go_ret
  exact ⟨rfl, UW.out⟩
end Go.Proofs.Ytapoimdphbhdaaa
