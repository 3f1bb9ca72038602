/- The walks of the exact laws of chapter 8. -/
import Derived.Test.YtapoimdphbhdaaaLawFns
import Derived.Test.YtapoimdphbhdaaaBest
namespace Go.Proofs.Ytapoimdphbhdaaa
open Go.RowKit
set_option linter.unusedVariables false
set_option linter.unusedSimpArgs false
set_option maxHeartbeats 2000000 in
theorem FnExactBestTurn_walk (a0 : Option Addr) (c0 : Nat) (x0 : List Int) (a1 : Option Addr) (c1 : Nat) (x1 : List Int) (w : World) (h0 : IntsAt w a0 x0) (h1 : IntsAt w a1 x1) :
    Calls Try.prog 10 #[.slice a0 x0.length c0, .slice a1 x1.length c1] w (RetT w) := by
  by_cases hl0 : x0.length ≤ 1048576
  case neg =>
    have hg0 : (1048576 : Int) < (x0.length : Int) := by omega
    go_enter Try.func10, Try.ntmps10
    go_wp2_with fail
    go_ret
    exact ⟨rfl, Upd.refl _⟩
  by_cases hl1 : x1.length ≤ 1048576
  case neg =>
    have hg1 : (1048576 : Int) < (x1.length : Int) := by omega
    go_enter Try.func10, Try.ntmps10
    go_wp2_with fail
    go_ret
    exact ⟨rfl, Upd.refl _⟩
  have H0 : Hid (∀ w1, Upd [] w w1 → IntsAt w1 a0 x0) := fun w1 u => h0.kept0 u
  have H1 : Hid (∀ w1, Upd [] w w1 → IntsAt w1 a1 x1) := fun w1 u => h1.kept0 u
  clear h0 h1
  have UW : Hid (Upd [] w w) := Upd.refl w
  go_enter Try.func10, Try.ntmps10
  go_wp2_with fail
  refine (toInt64S_c _ _ _ _ (H0.out _ UW.out) hl0).mono ?_
  rintro e w1 ⟨v, rfl, hO, hU⟩
  obtain ⟨bs0, ds0, rfl, -, -⟩ := hO.intsAt
  have Ls0 := Lib.hid (World.ownsRow.lt (w := w1) hO)
  have sw1 : w.heap.size ≤ w1.heap.size := hU.size
  replace UW := Lib.hid (UW.out.then0 hU)
  have Os0 := Lib.hid hO
  clear hO hU
  go_wp2_with fail
  refine (toInt64S_c _ _ _ _ (H1.out _ UW.out) hl1).mono ?_
  rintro e w2 ⟨v, rfl, hO, hU⟩
  obtain ⟨bs1, ds1, rfl, -, -⟩ := hO.intsAt
  have Ls1 := Lib.hid (World.ownsRow.lt (w := w2) hO)
  have sw2 : w1.heap.size ≤ w2.heap.size := hU.size
  replace Os0 := Lib.hid (Os0.out.kept0 hU)
  replace UW := Lib.hid (UW.out.then0 hU)
  have Os1 := Lib.hid hO
  clear hO hU
  go_wp2_with fail
  refine (sBestTurn_c _ _ _ _ _ _ _ (Os0.out.ints) (Os1.out.ints) hl0 hl1).mono ?_
  rintro e w3 ⟨rfl, hU⟩
  have sw3 : w2.heap.size ≤ w3.heap.size := hU.size
  replace Os0 := Lib.hid (Os0.out.kept0 hU)
  replace Os1 := Lib.hid (Os1.out.kept0 hU)
  replace UW := Lib.hid (UW.out.then0 hU)
  clear hU
  clear Os0 Ls0
  clear Os1 Ls1
  go_wp2_with fail
  refine (toInt64S_c _ _ _ _ (H0.out _ UW.out) hl0).mono ?_
  rintro e w4 ⟨v, rfl, hO, hU⟩
  obtain ⟨bx0, dx0, rfl, -, -⟩ := hO.intsAt
  have Lx0 := Lib.hid (World.ownsRow.lt (w := w4) hO)
  have sw4 : w3.heap.size ≤ w4.heap.size := hU.size
  replace UW := Lib.hid (UW.out.then0 hU)
  have Ox0 := Lib.hid hO
  clear hO hU
  go_wp2_with fail
  refine (toInt64S_c _ _ _ _ (H1.out _ UW.out) hl1).mono ?_
  rintro e w5 ⟨v, rfl, hO, hU⟩
  obtain ⟨bx1, dx1, rfl, -, -⟩ := hO.intsAt
  have Lx1 := Lib.hid (World.ownsRow.lt (w := w5) hO)
  have sw5 : w4.heap.size ≤ w5.heap.size := hU.size
  replace Ox0 := Lib.hid (Ox0.out.kept0 hU)
  replace UW := Lib.hid (UW.out.then0 hU)
  have Ox1 := Lib.hid hO
  clear hO hU
  go_wp2_with fail
  refine (iBestTurn_c _ _ _ _ _ _ _ (Ox0.out.ints) (Ox1.out.ints) hl0 hl1).mono ?_
  rintro e w6 ⟨rfl, hU⟩
  have sw6 : w5.heap.size ≤ w6.heap.size := hU.size
  replace Ox0 := Lib.hid (Ox0.out.kept0 hU)
  replace Ox1 := Lib.hid (Ox1.out.kept0 hU)
  replace UW := Lib.hid (UW.out.then0 hU)
  clear hU
  go_wp2_with fail
  refine (toInt64S_c _ _ _ _ (H0.out _ UW.out) hl0).mono ?_
  rintro e w7 ⟨v, rfl, hO, hU⟩
  obtain ⟨bt0, dt0, rfl, -, -⟩ := hO.intsAt
  have Lt0 := Lib.hid (World.ownsRow.lt (w := w7) hO)
  have sw7 : w6.heap.size ≤ w7.heap.size := hU.size
  replace Ox0 := Lib.hid (Ox0.out.kept0 hU)
  replace Ox1 := Lib.hid (Ox1.out.kept0 hU)
  replace UW := Lib.hid (UW.out.then0 hU)
  have Ot0 := Lib.hid hO
  clear hO hU
  go_wp2_with fail
  refine (eqInt64S_c _ _ _ _ _ _ (Ox0.out.ints) (Ot0.out.ints) hl0).mono ?_
  rintro e w8 ⟨rfl, hU⟩
  have sw8 : w7.heap.size ≤ w8.heap.size := hU.size
  replace Ox0 := Lib.hid (Ox0.out.kept0 hU)
  replace Ox1 := Lib.hid (Ox1.out.kept0 hU)
  replace Ot0 := Lib.hid (Ot0.out.kept0 hU)
  replace UW := Lib.hid (UW.out.then0 hU)
  clear hU
  clear Ot0 Lt0
  go_wp2_with fail
  refine (toInt64S_c _ _ _ _ (H1.out _ UW.out) hl1).mono ?_
  rintro e w9 ⟨v, rfl, hO, hU⟩
  obtain ⟨bt1, dt1, rfl, -, -⟩ := hO.intsAt
  have Lt1 := Lib.hid (World.ownsRow.lt (w := w9) hO)
  have sw9 : w8.heap.size ≤ w9.heap.size := hU.size
  replace Ox0 := Lib.hid (Ox0.out.kept0 hU)
  replace Ox1 := Lib.hid (Ox1.out.kept0 hU)
  replace UW := Lib.hid (UW.out.then0 hU)
  have Ot1 := Lib.hid hO
  clear hO hU
  go_wp2_with fail
  refine (eqInt64S_c _ _ _ _ _ _ (Ox1.out.ints) (Ot1.out.ints) hl1).mono ?_
  rintro e w10 ⟨rfl, hU⟩
  have sw10 : w9.heap.size ≤ w10.heap.size := hU.size
  replace Ox0 := Lib.hid (Ox0.out.kept0 hU)
  replace Ox1 := Lib.hid (Ox1.out.kept0 hU)
  replace Ot1 := Lib.hid (Ot1.out.kept0 hU)
  replace UW := Lib.hid (UW.out.then0 hU)
  clear hU
  clear Ot1 Lt1
  go_wp2_with fail
  go_ret
  exact ⟨rfl, UW.out⟩
end Go.Proofs.Ytapoimdphbhdaaa
