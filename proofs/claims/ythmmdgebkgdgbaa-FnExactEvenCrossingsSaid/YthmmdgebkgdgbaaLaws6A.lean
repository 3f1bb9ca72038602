/- The walks of the exact laws of chapter 6. -/
import Derived.Test.YthmmdgebkgdgbaaLawFns
import Derived.Test.YthmmdgebkgdgbaaLac8
namespace Go.Proofs.Ythmmdgebkgdgbaa
open Go.RowKit
set_option linter.unusedVariables false
set_option linter.unusedSimpArgs false
theorem usualL_le (n c : Int) : (usualL n c).length ≤ 1048576 := by
  unfold usualL; split
  · rename_i h
    simp only [Bool.and_eq_true] at h
    have := flB_bd h.1
    unfold usualF; rw [upTo_one]; omega
  · simp
theorem shiftsL_le (n : Int) (xs : List Int) : (shiftsL n xs).length ≤ xs.length := by unfold shiftsL; split; unfold shTo; rw [upTo_one]; omega; simp
set_option maxHeartbeats 2000000 in
theorem FnExactIsLacing_walk (n0 : Int) (a1 : Option Addr) (c1 : Nat) (x1 : List Int) (w : World) (h1 : IntsAt w a1 x1) :
    Calls Try.prog 3 #[.int .i64 n0, .slice a1 x1.length c1] w (RetT w) := by
  by_cases hl1 : x1.length ≤ 1048576
  case neg =>
    have hg1 : (1048576 : Int) < (x1.length : Int) := by omega
    go_enter Try.func3, Try.ntmps3
    go_wp2_with fail
    go_ret
    exact ⟨rfl, Upd.refl _⟩
  have H1 : Hid (∀ w1, Upd [] w w1 → IntsAt w1 a1 x1) := fun w1 u => h1.kept0 u
  clear h1
  have UW : Hid (Upd [] w w) := Upd.refl w
  go_enter Try.func3, Try.ntmps3
  go_wp2_with fail
  refine (toInt64S_c _ _ _ _ (H1.out _ UW.out) hl1).mono ?_
  rintro e w1 ⟨v, rfl, hO, hU⟩
  obtain ⟨bs1, ds1, rfl, -, -⟩ := hO.intsAt
  have Ls1 := Lib.hid (World.ownsRow.lt (w := w1) hO)
  have sw1 : w.heap.size ≤ w1.heap.size := hU.size
  replace UW := Lib.hid (UW.out.then0 hU)
  have Os1 := Lib.hid hO
  clear hO hU
  go_wp2_with fail
  refine (sIsLacing_c _ _ _ _ _ (Os1.out.ints) hl1 (Os1.out.cap.1)).mono ?_
  rintro e w2 ⟨rfl, hU⟩
  have sw2 : w1.heap.size ≤ w2.heap.size := hU.size
  replace Os1 := Lib.hid (Os1.out.kept0 hU)
  replace UW := Lib.hid (UW.out.then0 hU)
  clear hU
  clear Os1 Ls1
  go_wp2_with fail
  refine (toInt64S_c _ _ _ _ (H1.out _ UW.out) hl1).mono ?_
  rintro e w3 ⟨v, rfl, hO, hU⟩
  obtain ⟨bx1, dx1, rfl, -, -⟩ := hO.intsAt
  have Lx1 := Lib.hid (World.ownsRow.lt (w := w3) hO)
  have sw3 : w2.heap.size ≤ w3.heap.size := hU.size
  replace UW := Lib.hid (UW.out.then0 hU)
  have Ox1 := Lib.hid hO
  clear hO hU
  go_wp2_with fail
  refine (iIsLacing_c _ _ _ _ _ (Ox1.out.ints) hl1).mono ?_
  rintro e w4 ⟨rfl, hU⟩
  have sw4 : w3.heap.size ≤ w4.heap.size := hU.size
  replace Ox1 := Lib.hid (Ox1.out.kept0 hU)
  replace UW := Lib.hid (UW.out.then0 hU)
  clear hU
  go_wp2_with fail
  refine (toInt64S_c _ _ _ _ (H1.out _ UW.out) hl1).mono ?_
  rintro e w5 ⟨v, rfl, hO, hU⟩
  obtain ⟨bt1, dt1, rfl, -, -⟩ := hO.intsAt
  have Lt1 := Lib.hid (World.ownsRow.lt (w := w5) hO)
  have sw5 : w4.heap.size ≤ w5.heap.size := hU.size
  replace Ox1 := Lib.hid (Ox1.out.kept0 hU)
  replace UW := Lib.hid (UW.out.then0 hU)
  have Ot1 := Lib.hid hO
  clear hO hU
  go_wp2_with fail
  refine (eqInt64S_c _ _ _ _ _ _ (Ox1.out.ints) (Ot1.out.ints) hl1).mono ?_
  rintro e w6 ⟨rfl, hU⟩
  have sw6 : w5.heap.size ≤ w6.heap.size := hU.size
  replace Ox1 := Lib.hid (Ox1.out.kept0 hU)
  replace Ot1 := Lib.hid (Ot1.out.kept0 hU)
  replace UW := Lib.hid (UW.out.then0 hU)
  clear hU
  clear Ot1 Lt1
  go_wp2_with fail
  go_ret
  exact ⟨rfl, UW.out⟩
set_option maxHeartbeats 2000000 in
theorem FnExactCrossingsOf_walk (n0 : Int) (a1 : Option Addr) (c1 : Nat) (x1 : List Int) (n2 : Int) (w : World) (h1 : IntsAt w a1 x1) :
    Calls Try.prog 10 #[.int .i64 n0, .slice a1 x1.length c1, .int .i64 n2] w (RetT w) := by
  by_cases hl1 : x1.length ≤ 1048576
  case neg =>
    have hg1 : (1048576 : Int) < (x1.length : Int) := by omega
    go_enter Try.func10, Try.ntmps10
    go_wp2_with fail
    go_ret
    exact ⟨rfl, Upd.refl _⟩
  have H1 : Hid (∀ w1, Upd [] w w1 → IntsAt w1 a1 x1) := fun w1 u => h1.kept0 u
  clear h1
  have UW : Hid (Upd [] w w) := Upd.refl w
  go_enter Try.func10, Try.ntmps10
  go_wp2_with fail
  refine (toInt64S_c _ _ _ _ (H1.out _ UW.out) hl1).mono ?_
  rintro e w1 ⟨v, rfl, hO, hU⟩
  obtain ⟨bs1, ds1, rfl, -, -⟩ := hO.intsAt
  have Ls1 := Lib.hid (World.ownsRow.lt (w := w1) hO)
  have sw1 : w.heap.size ≤ w1.heap.size := hU.size
  replace UW := Lib.hid (UW.out.then0 hU)
  have Os1 := Lib.hid hO
  clear hO hU
  go_wp2_with fail
  refine (sCrossingsOf_c _ _ _ _ _ _ (Os1.out.ints) hl1 (Os1.out.cap.1)).mono ?_
  rintro e w2 ⟨rfl, hU⟩
  have sw2 : w1.heap.size ≤ w2.heap.size := hU.size
  replace Os1 := Lib.hid (Os1.out.kept0 hU)
  replace UW := Lib.hid (UW.out.then0 hU)
  clear hU
  clear Os1 Ls1
  go_wp2_with fail
  refine (toInt64S_c _ _ _ _ (H1.out _ UW.out) hl1).mono ?_
  rintro e w3 ⟨v, rfl, hO, hU⟩
  obtain ⟨bx1, dx1, rfl, -, -⟩ := hO.intsAt
  have Lx1 := Lib.hid (World.ownsRow.lt (w := w3) hO)
  have sw3 : w2.heap.size ≤ w3.heap.size := hU.size
  replace UW := Lib.hid (UW.out.then0 hU)
  have Ox1 := Lib.hid hO
  clear hO hU
  go_wp2_with fail
  refine (iCrossingsOf_c _ _ _ _ _ _ (Ox1.out.ints) hl1).mono ?_
  rintro e w4 ⟨rfl, hU⟩
  have sw4 : w3.heap.size ≤ w4.heap.size := hU.size
  replace Ox1 := Lib.hid (Ox1.out.kept0 hU)
  replace UW := Lib.hid (UW.out.then0 hU)
  clear hU
  go_wp2_with fail
  refine (toInt64S_c _ _ _ _ (H1.out _ UW.out) hl1).mono ?_
  rintro e w5 ⟨v, rfl, hO, hU⟩
  obtain ⟨bt1, dt1, rfl, -, -⟩ := hO.intsAt
  have Lt1 := Lib.hid (World.ownsRow.lt (w := w5) hO)
  have sw5 : w4.heap.size ≤ w5.heap.size := hU.size
  replace Ox1 := Lib.hid (Ox1.out.kept0 hU)
  replace UW := Lib.hid (UW.out.then0 hU)
  have Ot1 := Lib.hid hO
  clear hO hU
  go_wp2_with fail
  refine (eqInt64S_c _ _ _ _ _ _ (Ox1.out.ints) (Ot1.out.ints) hl1).mono ?_
  rintro e w6 ⟨rfl, hU⟩
  have sw6 : w5.heap.size ≤ w6.heap.size := hU.size
  replace Ox1 := Lib.hid (Ox1.out.kept0 hU)
  replace Ot1 := Lib.hid (Ot1.out.kept0 hU)
  replace UW := Lib.hid (UW.out.then0 hU)
  clear hU
  clear Ot1 Lt1
  go_wp2_with fail
  go_ret
  exact ⟨rfl, UW.out⟩
set_option maxHeartbeats 2000000 in
theorem FnExactEvenCrossings_walk (n0 : Int) (a1 : Option Addr) (c1 : Nat) (x1 : List Int) (w : World) (h1 : IntsAt w a1 x1) :
    Calls Try.prog 11 #[.int .i64 n0, .slice a1 x1.length c1] w (RetT w) := by
  by_cases hl1 : x1.length ≤ 1048576
  case neg =>
    have hg1 : (1048576 : Int) < (x1.length : Int) := by omega
    go_enter Try.func11, Try.ntmps11
    go_wp2_with fail
    go_ret
    exact ⟨rfl, Upd.refl _⟩
  have H1 : Hid (∀ w1, Upd [] w w1 → IntsAt w1 a1 x1) := fun w1 u => h1.kept0 u
  clear h1
  have UW : Hid (Upd [] w w) := Upd.refl w
  go_enter Try.func11, Try.ntmps11
  go_wp2_with fail
  refine (toInt64S_c _ _ _ _ (H1.out _ UW.out) hl1).mono ?_
  rintro e w1 ⟨v, rfl, hO, hU⟩
  obtain ⟨bs1, ds1, rfl, -, -⟩ := hO.intsAt
  have Ls1 := Lib.hid (World.ownsRow.lt (w := w1) hO)
  have sw1 : w.heap.size ≤ w1.heap.size := hU.size
  replace UW := Lib.hid (UW.out.then0 hU)
  have Os1 := Lib.hid hO
  clear hO hU
  go_wp2_with fail
  refine (sEvenCrossings_c _ _ _ _ _ (Os1.out.ints) hl1 (Os1.out.cap.1)).mono ?_
  rintro e w2 ⟨rfl, hU⟩
  have sw2 : w1.heap.size ≤ w2.heap.size := hU.size
  replace Os1 := Lib.hid (Os1.out.kept0 hU)
  replace UW := Lib.hid (UW.out.then0 hU)
  clear hU
  clear Os1 Ls1
  go_wp2_with fail
  refine (toInt64S_c _ _ _ _ (H1.out _ UW.out) hl1).mono ?_
  rintro e w3 ⟨v, rfl, hO, hU⟩
  obtain ⟨bx1, dx1, rfl, -, -⟩ := hO.intsAt
  have Lx1 := Lib.hid (World.ownsRow.lt (w := w3) hO)
  have sw3 : w2.heap.size ≤ w3.heap.size := hU.size
  replace UW := Lib.hid (UW.out.then0 hU)
  have Ox1 := Lib.hid hO
  clear hO hU
  go_wp2_with fail
  refine (iEvenCrossings_c _ _ _ _ _ (Ox1.out.ints) hl1).mono ?_
  rintro e w4 ⟨rfl, hU⟩
  have sw4 : w3.heap.size ≤ w4.heap.size := hU.size
  replace Ox1 := Lib.hid (Ox1.out.kept0 hU)
  replace UW := Lib.hid (UW.out.then0 hU)
  clear hU
  go_wp2_with fail
  refine (toInt64S_c _ _ _ _ (H1.out _ UW.out) hl1).mono ?_
  rintro e w5 ⟨v, rfl, hO, hU⟩
  obtain ⟨bt1, dt1, rfl, -, -⟩ := hO.intsAt
  have Lt1 := Lib.hid (World.ownsRow.lt (w := w5) hO)
  have sw5 : w4.heap.size ≤ w5.heap.size := hU.size
  replace Ox1 := Lib.hid (Ox1.out.kept0 hU)
  replace UW := Lib.hid (UW.out.then0 hU)
  have Ot1 := Lib.hid hO
  clear hO hU
  go_wp2_with fail
  refine (eqInt64S_c _ _ _ _ _ _ (Ox1.out.ints) (Ot1.out.ints) hl1).mono ?_
  rintro e w6 ⟨rfl, hU⟩
  have sw6 : w5.heap.size ≤ w6.heap.size := hU.size
  replace Ox1 := Lib.hid (Ox1.out.kept0 hU)
  replace Ot1 := Lib.hid (Ot1.out.kept0 hU)
  replace UW := Lib.hid (UW.out.then0 hU)
  clear hU
  clear Ot1 Lt1
  go_wp2_with fail
  go_ret
  exact ⟨rfl, UW.out⟩
set_option maxHeartbeats 2000000 in
theorem FnExactUsualLacing_walk (n0 : Int) (n1 : Int) (w : World)  :
    Calls Try.prog 4 #[.int .i64 n0, .int .i64 n1] w (RetT w) := by
  have hr : (usualL n0 n1).length ≤ 1048576 := usualL_le n0 n1
  have UW : Hid (Upd [] w w) := Upd.refl w
  go_enter Try.func4, Try.ntmps4
  go_wp2_with fail
  refine (sUsualLacing_c _ _ _ ).mono ?_
  rintro e w1 ⟨v, rfl, hO, hU⟩
  obtain ⟨bR, dR, rfl, -, -⟩ := hO.intsAt
  have LR := Lib.hid (World.ownsRow.lt (w := w1) hO)
  have sw1 : w.heap.size ≤ w1.heap.size := hU.size
  replace UW := Lib.hid (UW.out.then0 hU)
  have OR := Lib.hid hO
  clear hO hU
  go_wp2_with fail
  refine (iUsualLacing_c _ _ _ ).mono ?_
  rintro e w2 ⟨v, rfl, hO, hU⟩
  obtain ⟨bG, dG, rfl, -, -⟩ := hO.intsAt
  have LG := Lib.hid (World.ownsRow.lt (w := w2) hO)
  have sw2 : w1.heap.size ≤ w2.heap.size := hU.size
  replace OR := Lib.hid (OR.out.kept0 hU)
  replace UW := Lib.hid (UW.out.then0 hU)
  have OG := Lib.hid hO
  clear hO hU
  go_wp2_with fail
  refine (eqInt64S_c _ _ _ _ _ _ (OG.out.ints) (OR.out.ints) hr).mono ?_
  rintro e w3 ⟨rfl, hU⟩
  have sw3 : w2.heap.size ≤ w3.heap.size := hU.size
  replace OR := Lib.hid (OR.out.kept0 hU)
  replace OG := Lib.hid (OG.out.kept0 hU)
  replace UW := Lib.hid (UW.out.then0 hU)
  clear hU
  go_wp2_with fail
  refine (markInt64S_c _ _ _ _ _ OG.out hr (by omega)).mono ?_
  rintro e w4 ⟨rfl, hO, hU⟩
  have sw4 : w3.heap.size ≤ w4.heap.size := hU.size
  replace OR := Lib.hid (OR.out.apart hU LG.out LR.out (by omega))
  replace UW := Lib.hid (UW.out.afterOwn hU (fun k hk => Nat.le_trans (by omega) (LG.out k hk).1))
  replace OG := Lib.hid hO
  clear hO hU
  go_wp2_with fail
  refine (heldInt64S_c _ _ _ _ _ (OG.out.ints) hr (by omega)).mono ?_
  rintro e w' ⟨rfl, rfl⟩
  go_wp2_with fail
  refine (iUsualLacing_c _ _ _ ).mono ?_
  rintro e w6 ⟨v, rfl, hO, hU⟩
  obtain ⟨bK, dK, rfl, -, -⟩ := hO.intsAt
  have LK := Lib.hid (World.ownsRow.lt (w := w6) hO)
  have sw6 : w4.heap.size ≤ w6.heap.size := hU.size
  replace OR := Lib.hid (OR.out.kept0 hU)
  replace OG := Lib.hid (OG.out.kept0 hU)
  replace UW := Lib.hid (UW.out.then0 hU)
  have OK := Lib.hid hO
  clear hO hU
  go_wp2_with fail
  refine (eqInt64S_c _ _ _ _ _ _ (OK.out.ints) (OR.out.ints) hr).mono ?_
  rintro e w7 ⟨rfl, hU⟩
  have sw7 : w6.heap.size ≤ w7.heap.size := hU.size
  replace OR := Lib.hid (OR.out.kept0 hU)
  replace OG := Lib.hid (OG.out.kept0 hU)
  replace OK := Lib.hid (OK.out.kept0 hU)
  replace UW := Lib.hid (UW.out.then0 hU)
  clear hU
  go_wp2_with fail
  refine (heldInt64S_c _ _ _ _ _ (OG.out.ints) hr (by omega)).mono ?_
  rintro e w' ⟨rfl, rfl⟩
  go_wp2_with fail
  go_ret
  exact ⟨rfl, UW.out⟩
set_option maxHeartbeats 2000000 in
theorem FnExactShiftsOf_walk (n0 : Int) (a1 : Option Addr) (c1 : Nat) (x1 : List Int) (w : World) (h1 : IntsAt w a1 x1) :
    Calls Try.prog 9 #[.int .i64 n0, .slice a1 x1.length c1] w (RetT w) := by
  by_cases hl1 : x1.length ≤ 1048576
  case neg =>
    have hg1 : (1048576 : Int) < (x1.length : Int) := by omega
    go_enter Try.func9, Try.ntmps9
    go_wp2_with fail
    go_ret
    exact ⟨rfl, Upd.refl _⟩
  have H1 : Hid (∀ w1, Upd [] w w1 → IntsAt w1 a1 x1) := fun w1 u => h1.kept0 u
  clear h1
  have hr : (shiftsL n0 x1).length ≤ 1048576 := Nat.le_trans (shiftsL_le n0 x1) hl1
  have UW : Hid (Upd [] w w) := Upd.refl w
  go_enter Try.func9, Try.ntmps9
  go_wp2_with fail
  refine (toInt64S_c _ _ _ _ (H1.out _ UW.out) hl1).mono ?_
  rintro e w1 ⟨v, rfl, hO, hU⟩
  obtain ⟨bs1, ds1, rfl, -, -⟩ := hO.intsAt
  have Ls1 := Lib.hid (World.ownsRow.lt (w := w1) hO)
  have sw1 : w.heap.size ≤ w1.heap.size := hU.size
  replace UW := Lib.hid (UW.out.then0 hU)
  have Os1 := Lib.hid hO
  clear hO hU
  go_wp2_with fail
  refine (sShiftsOf_c _ _ _ _ _ (Os1.out.ints) hl1 (Os1.out.cap.1)).mono ?_
  rintro e w2 ⟨v, rfl, hO, hU⟩
  obtain ⟨bR, dR, rfl, -, -⟩ := hO.intsAt
  have LR := Lib.hid (World.ownsRow.lt (w := w2) hO)
  have sw2 : w1.heap.size ≤ w2.heap.size := hU.size
  replace Os1 := Lib.hid (Os1.out.kept0 hU)
  replace UW := Lib.hid (UW.out.then0 hU)
  have OR := Lib.hid hO
  clear hO hU
  clear Os1 Ls1
  go_wp2_with fail
  refine (toInt64S_c _ _ _ _ (H1.out _ UW.out) hl1).mono ?_
  rintro e w3 ⟨v, rfl, hO, hU⟩
  obtain ⟨bx1, dx1, rfl, -, -⟩ := hO.intsAt
  have Lx1 := Lib.hid (World.ownsRow.lt (w := w3) hO)
  have sw3 : w2.heap.size ≤ w3.heap.size := hU.size
  replace OR := Lib.hid (OR.out.kept0 hU)
  replace UW := Lib.hid (UW.out.then0 hU)
  have Ox1 := Lib.hid hO
  clear hO hU
  go_wp2_with fail
  refine (iShiftsOf_c _ _ _ _ _ (Ox1.out.ints) hl1).mono ?_
  rintro e w4 ⟨v, rfl, hO, hU⟩
  obtain ⟨bG, dG, rfl, -, -⟩ := hO.intsAt
  have LG := Lib.hid (World.ownsRow.lt (w := w4) hO)
  have sw4 : w3.heap.size ≤ w4.heap.size := hU.size
  replace OR := Lib.hid (OR.out.kept0 hU)
  replace Ox1 := Lib.hid (Ox1.out.kept0 hU)
  replace UW := Lib.hid (UW.out.then0 hU)
  have OG := Lib.hid hO
  clear hO hU
  go_wp2_with fail
  refine (eqInt64S_c _ _ _ _ _ _ (OG.out.ints) (OR.out.ints) hr).mono ?_
  rintro e w5 ⟨rfl, hU⟩
  have sw5 : w4.heap.size ≤ w5.heap.size := hU.size
  replace OR := Lib.hid (OR.out.kept0 hU)
  replace Ox1 := Lib.hid (Ox1.out.kept0 hU)
  replace OG := Lib.hid (OG.out.kept0 hU)
  replace UW := Lib.hid (UW.out.then0 hU)
  clear hU
  go_wp2_with fail
  refine (toInt64S_c _ _ _ _ (H1.out _ UW.out) hl1).mono ?_
  rintro e w6 ⟨v, rfl, hO, hU⟩
  obtain ⟨bt1, dt1, rfl, -, -⟩ := hO.intsAt
  have Lt1 := Lib.hid (World.ownsRow.lt (w := w6) hO)
  have sw6 : w5.heap.size ≤ w6.heap.size := hU.size
  replace OR := Lib.hid (OR.out.kept0 hU)
  replace Ox1 := Lib.hid (Ox1.out.kept0 hU)
  replace OG := Lib.hid (OG.out.kept0 hU)
  replace UW := Lib.hid (UW.out.then0 hU)
  have Ot1 := Lib.hid hO
  clear hO hU
  go_wp2_with fail
  refine (eqInt64S_c _ _ _ _ _ _ (Ox1.out.ints) (Ot1.out.ints) hl1).mono ?_
  rintro e w7 ⟨rfl, hU⟩
  have sw7 : w6.heap.size ≤ w7.heap.size := hU.size
  replace OR := Lib.hid (OR.out.kept0 hU)
  replace Ox1 := Lib.hid (Ox1.out.kept0 hU)
  replace OG := Lib.hid (OG.out.kept0 hU)
  replace Ot1 := Lib.hid (Ot1.out.kept0 hU)
  replace UW := Lib.hid (UW.out.then0 hU)
  clear hU
  clear Ot1 Lt1
  go_wp2_with fail
  refine (markInt64S_c _ _ _ _ _ Ox1.out hl1 (by omega)).mono ?_
  rintro e w8 ⟨rfl, hO, hU⟩
  have sw8 : w7.heap.size ≤ w8.heap.size := hU.size
  replace OR := Lib.hid (OR.out.apart hU Lx1.out LR.out (by omega))
  replace OG := Lib.hid (OG.out.apart hU Lx1.out LG.out (by omega))
  replace UW := Lib.hid (UW.out.afterOwn hU (fun k hk => Nat.le_trans (by omega) (Lx1.out k hk).1))
  replace Ox1 := Lib.hid hO
  clear hO hU
  go_wp2_with fail
  refine (eqInt64S_c _ _ _ _ _ _ (OG.out.ints) (OR.out.ints) hr).mono ?_
  rintro e w9 ⟨rfl, hU⟩
  have sw9 : w8.heap.size ≤ w9.heap.size := hU.size
  replace OR := Lib.hid (OR.out.kept0 hU)
  replace Ox1 := Lib.hid (Ox1.out.kept0 hU)
  replace OG := Lib.hid (OG.out.kept0 hU)
  replace UW := Lib.hid (UW.out.then0 hU)
  clear hU
  clear Ox1 Lx1
  go_wp2_with fail
  refine (markInt64S_c _ _ _ _ _ OG.out hr (by omega)).mono ?_
  rintro e w10 ⟨rfl, hO, hU⟩
  have sw10 : w9.heap.size ≤ w10.heap.size := hU.size
  replace OR := Lib.hid (OR.out.apart hU LG.out LR.out (by omega))
  replace UW := Lib.hid (UW.out.afterOwn hU (fun k hk => Nat.le_trans (by omega) (LG.out k hk).1))
  replace OG := Lib.hid hO
  clear hO hU
  go_wp2_with fail
  refine (heldInt64S_c _ _ _ _ _ (OG.out.ints) hr (by omega)).mono ?_
  rintro e w' ⟨rfl, rfl⟩
  go_wp2_with fail
  refine (toInt64S_c _ _ _ _ (H1.out _ UW.out) hl1).mono ?_
  rintro e w12 ⟨v, rfl, hO, hU⟩
  obtain ⟨by1, dy1, rfl, -, -⟩ := hO.intsAt
  have Ly1 := Lib.hid (World.ownsRow.lt (w := w12) hO)
  have sw12 : w10.heap.size ≤ w12.heap.size := hU.size
  replace OR := Lib.hid (OR.out.kept0 hU)
  replace OG := Lib.hid (OG.out.kept0 hU)
  replace UW := Lib.hid (UW.out.then0 hU)
  have Oy1 := Lib.hid hO
  clear hO hU
  go_wp2_with fail
  refine (iShiftsOf_c _ _ _ _ _ (Oy1.out.ints) hl1).mono ?_
  rintro e w13 ⟨v, rfl, hO, hU⟩
  obtain ⟨bK, dK, rfl, -, -⟩ := hO.intsAt
  have LK := Lib.hid (World.ownsRow.lt (w := w13) hO)
  have sw13 : w12.heap.size ≤ w13.heap.size := hU.size
  replace OR := Lib.hid (OR.out.kept0 hU)
  replace OG := Lib.hid (OG.out.kept0 hU)
  replace Oy1 := Lib.hid (Oy1.out.kept0 hU)
  replace UW := Lib.hid (UW.out.then0 hU)
  have OK := Lib.hid hO
  clear hO hU
  go_wp2_with fail
  refine (eqInt64S_c _ _ _ _ _ _ (OK.out.ints) (OR.out.ints) hr).mono ?_
  rintro e w14 ⟨rfl, hU⟩
  have sw14 : w13.heap.size ≤ w14.heap.size := hU.size
  replace OR := Lib.hid (OR.out.kept0 hU)
  replace OG := Lib.hid (OG.out.kept0 hU)
  replace Oy1 := Lib.hid (Oy1.out.kept0 hU)
  replace OK := Lib.hid (OK.out.kept0 hU)
  replace UW := Lib.hid (UW.out.then0 hU)
  clear hU
  go_wp2_with fail
  refine (heldInt64S_c _ _ _ _ _ (OG.out.ints) hr (by omega)).mono ?_
  rintro e w' ⟨rfl, rfl⟩
  go_wp2_with fail
  go_ret
  exact ⟨rfl, UW.out⟩
end Go.Proofs.Ythmmdgebkgdgbaa
