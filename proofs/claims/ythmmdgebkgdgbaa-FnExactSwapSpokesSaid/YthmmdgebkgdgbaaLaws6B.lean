/- The walks of the exact laws of chapter 6. -/
import Derived.Test.YthmmdgebkgdgbaaLawFns
import Derived.Test.YthmmdgebkgdgbaaLac4
import Derived.Test.YthmmdgebkgdgbaaLac5
import Derived.Test.YthmmdgebkgdgbaaLac6
namespace Go.Proofs.Ythmmdgebkgdgbaa
open Go.RowKit
set_option linter.unusedVariables false
set_option linter.unusedSimpArgs false
theorem mvL_le (n : Int) (a b : List Int) : (mvL n a b).length ≤ a.length := by unfold mvL; split; exact mvTo_le _ _ _; simp
theorem mirL_le (n : Int) (xs : List Int) : (mirL n xs).length ≤ xs.length := by unfold mirL; split; rw [mirTo_length]; omega; simp
theorem rotL_le (n : Int) (xs : List Int) (b : Int) : (rotL n xs b).length ≤ xs.length := by unfold rotL; split; unfold rotTo; rw [upTo_one]; omega; simp
theorem swpL_le (n : Int) (xs : List Int) (k l : Int) : (swpL n xs k l).length ≤ xs.length := by unfold swpL; split; rw [swpF_length]; omega; simp
set_option maxHeartbeats 2000000 in
theorem FnExactMovesBetween_walk (n0 : Int) (a1 : Option Addr) (c1 : Nat) (x1 : List Int) (a2 : Option Addr) (c2 : Nat) (x2 : List Int) (w : World) (h1 : IntsAt w a1 x1) (h2 : IntsAt w a2 x2) :
    Calls Try.prog 5 #[.int .i64 n0, .slice a1 x1.length c1, .slice a2 x2.length c2] w (RetT w) := by
  by_cases hl1 : x1.length ≤ 1048576
  case neg =>
    have hg1 : (1048576 : Int) < (x1.length : Int) := by omega
    go_enter Try.func5, Try.ntmps5
    go_wp2_with fail
    go_ret
    exact ⟨rfl, Upd.refl _⟩
  by_cases hl2 : x2.length ≤ 1048576
  case neg =>
    have hg2 : (1048576 : Int) < (x2.length : Int) := by omega
    go_enter Try.func5, Try.ntmps5
    go_wp2_with fail
    go_ret
    exact ⟨rfl, Upd.refl _⟩
  have H1 : Hid (∀ w1, Upd [] w w1 → IntsAt w1 a1 x1) := fun w1 u => h1.kept0 u
  have H2 : Hid (∀ w1, Upd [] w w1 → IntsAt w1 a2 x2) := fun w1 u => h2.kept0 u
  clear h1 h2
  have hr : (mvL n0 x1 x2).length ≤ 1048576 := Nat.le_trans (mvL_le n0 x1 x2) hl1
  have UW : Hid (Upd [] w w) := Upd.refl w
  go_enter Try.func5, Try.ntmps5
  go_wp2_with fail
  refine (toInt64S_c _ _ _ _ (H1.out _ UW.out) hl1).mono ?_
  rintro e w1 ⟨v, rfl, hO, hU⟩
  obtain ⟨bs1, ds1, rfl, -, -⟩ := hO.intsAt
  have Ls1 := Lib.hid (World.ownsRow.lt (w := w1) hO)
  have sw1 : w.heap.size ≤ w1.heap.size := hU.size
  replace UW := Lib.hid (UW.out.then0 hU)
  have Os1 := Lib.hid hO
  clear hO hU
  go_wp2_with fail
  refine (toInt64S_c _ _ _ _ (H2.out _ UW.out) hl2).mono ?_
  rintro e w2 ⟨v, rfl, hO, hU⟩
  obtain ⟨bs2, ds2, rfl, -, -⟩ := hO.intsAt
  have Ls2 := Lib.hid (World.ownsRow.lt (w := w2) hO)
  have sw2 : w1.heap.size ≤ w2.heap.size := hU.size
  replace Os1 := Lib.hid (Os1.out.kept0 hU)
  replace UW := Lib.hid (UW.out.then0 hU)
  have Os2 := Lib.hid hO
  clear hO hU
  go_wp2_with fail
  refine (sMovesBetween_c _ _ _ _ _ _ _ _ (Os1.out.ints) (Os2.out.ints) hl1 hl2 (Os1.out.cap.1) (Os2.out.cap.1)).mono ?_
  rintro e w3 ⟨v, rfl, hO, hU⟩
  obtain ⟨bR, dR, rfl, -, -⟩ := hO.intsAt
  have LR := Lib.hid (World.ownsRow.lt (w := w3) hO)
  have sw3 : w2.heap.size ≤ w3.heap.size := hU.size
  replace Os1 := Lib.hid (Os1.out.kept0 hU)
  replace Os2 := Lib.hid (Os2.out.kept0 hU)
  replace UW := Lib.hid (UW.out.then0 hU)
  have OR := Lib.hid hO
  clear hO hU
  clear Os1 Ls1
  clear Os2 Ls2
  go_wp2_with fail
  refine (toInt64S_c _ _ _ _ (H1.out _ UW.out) hl1).mono ?_
  rintro e w4 ⟨v, rfl, hO, hU⟩
  obtain ⟨bx1, dx1, rfl, -, -⟩ := hO.intsAt
  have Lx1 := Lib.hid (World.ownsRow.lt (w := w4) hO)
  have sw4 : w3.heap.size ≤ w4.heap.size := hU.size
  replace OR := Lib.hid (OR.out.kept0 hU)
  replace UW := Lib.hid (UW.out.then0 hU)
  have Ox1 := Lib.hid hO
  clear hO hU
  go_wp2_with fail
  refine (toInt64S_c _ _ _ _ (H2.out _ UW.out) hl2).mono ?_
  rintro e w5 ⟨v, rfl, hO, hU⟩
  obtain ⟨bx2, dx2, rfl, -, -⟩ := hO.intsAt
  have Lx2 := Lib.hid (World.ownsRow.lt (w := w5) hO)
  have sw5 : w4.heap.size ≤ w5.heap.size := hU.size
  replace OR := Lib.hid (OR.out.kept0 hU)
  replace Ox1 := Lib.hid (Ox1.out.kept0 hU)
  replace UW := Lib.hid (UW.out.then0 hU)
  have Ox2 := Lib.hid hO
  clear hO hU
  go_wp2_with fail
  refine (iMovesBetween_c _ _ _ _ _ _ _ _ (Ox1.out.ints) (Ox2.out.ints) hl1 hl2).mono ?_
  rintro e w6 ⟨v, rfl, hO, hU⟩
  obtain ⟨bG, dG, rfl, -, -⟩ := hO.intsAt
  have LG := Lib.hid (World.ownsRow.lt (w := w6) hO)
  have sw6 : w5.heap.size ≤ w6.heap.size := hU.size
  replace OR := Lib.hid (OR.out.kept0 hU)
  replace Ox1 := Lib.hid (Ox1.out.kept0 hU)
  replace Ox2 := Lib.hid (Ox2.out.kept0 hU)
  replace UW := Lib.hid (UW.out.then0 hU)
  have OG := Lib.hid hO
  clear hO hU
  go_wp2_with fail
  refine (eqInt64S_c _ _ _ _ _ _ (OG.out.ints) (OR.out.ints) hr).mono ?_
  rintro e w7 ⟨rfl, hU⟩
  have sw7 : w6.heap.size ≤ w7.heap.size := hU.size
  replace OR := Lib.hid (OR.out.kept0 hU)
  replace Ox1 := Lib.hid (Ox1.out.kept0 hU)
  replace Ox2 := Lib.hid (Ox2.out.kept0 hU)
  replace OG := Lib.hid (OG.out.kept0 hU)
  replace UW := Lib.hid (UW.out.then0 hU)
  clear hU
  go_wp2_with fail
  refine (toInt64S_c _ _ _ _ (H1.out _ UW.out) hl1).mono ?_
  rintro e w8 ⟨v, rfl, hO, hU⟩
  obtain ⟨bt1, dt1, rfl, -, -⟩ := hO.intsAt
  have Lt1 := Lib.hid (World.ownsRow.lt (w := w8) hO)
  have sw8 : w7.heap.size ≤ w8.heap.size := hU.size
  replace OR := Lib.hid (OR.out.kept0 hU)
  replace Ox1 := Lib.hid (Ox1.out.kept0 hU)
  replace Ox2 := Lib.hid (Ox2.out.kept0 hU)
  replace OG := Lib.hid (OG.out.kept0 hU)
  replace UW := Lib.hid (UW.out.then0 hU)
  have Ot1 := Lib.hid hO
  clear hO hU
  go_wp2_with fail
  refine (eqInt64S_c _ _ _ _ _ _ (Ox1.out.ints) (Ot1.out.ints) hl1).mono ?_
  rintro e w9 ⟨rfl, hU⟩
  have sw9 : w8.heap.size ≤ w9.heap.size := hU.size
  replace OR := Lib.hid (OR.out.kept0 hU)
  replace Ox1 := Lib.hid (Ox1.out.kept0 hU)
  replace Ox2 := Lib.hid (Ox2.out.kept0 hU)
  replace OG := Lib.hid (OG.out.kept0 hU)
  replace Ot1 := Lib.hid (Ot1.out.kept0 hU)
  replace UW := Lib.hid (UW.out.then0 hU)
  clear hU
  clear Ot1 Lt1
  go_wp2_with fail
  refine (toInt64S_c _ _ _ _ (H2.out _ UW.out) hl2).mono ?_
  rintro e w10 ⟨v, rfl, hO, hU⟩
  obtain ⟨bt2, dt2, rfl, -, -⟩ := hO.intsAt
  have Lt2 := Lib.hid (World.ownsRow.lt (w := w10) hO)
  have sw10 : w9.heap.size ≤ w10.heap.size := hU.size
  replace OR := Lib.hid (OR.out.kept0 hU)
  replace Ox1 := Lib.hid (Ox1.out.kept0 hU)
  replace Ox2 := Lib.hid (Ox2.out.kept0 hU)
  replace OG := Lib.hid (OG.out.kept0 hU)
  replace UW := Lib.hid (UW.out.then0 hU)
  have Ot2 := Lib.hid hO
  clear hO hU
  go_wp2_with fail
  refine (eqInt64S_c _ _ _ _ _ _ (Ox2.out.ints) (Ot2.out.ints) hl2).mono ?_
  rintro e w11 ⟨rfl, hU⟩
  have sw11 : w10.heap.size ≤ w11.heap.size := hU.size
  replace OR := Lib.hid (OR.out.kept0 hU)
  replace Ox1 := Lib.hid (Ox1.out.kept0 hU)
  replace Ox2 := Lib.hid (Ox2.out.kept0 hU)
  replace OG := Lib.hid (OG.out.kept0 hU)
  replace Ot2 := Lib.hid (Ot2.out.kept0 hU)
  replace UW := Lib.hid (UW.out.then0 hU)
  clear hU
  clear Ot2 Lt2
  go_wp2_with fail
  refine (markInt64S_c _ _ _ _ _ Ox1.out hl1 (by omega)).mono ?_
  rintro e w12 ⟨rfl, hO, hU⟩
  have sw12 : w11.heap.size ≤ w12.heap.size := hU.size
  replace OR := Lib.hid (OR.out.apart hU Lx1.out LR.out (by omega))
  replace Ox2 := Lib.hid (Ox2.out.apart hU Lx1.out Lx2.out (by omega))
  replace OG := Lib.hid (OG.out.apart hU Lx1.out LG.out (by omega))
  replace UW := Lib.hid (UW.out.afterOwn hU (fun k hk => Nat.le_trans (by omega) (Lx1.out k hk).1))
  replace Ox1 := Lib.hid hO
  clear hO hU
  go_wp2_with fail
  refine (markInt64S_c _ _ _ _ _ Ox2.out hl2 (by omega)).mono ?_
  rintro e w13 ⟨rfl, hO, hU⟩
  have sw13 : w12.heap.size ≤ w13.heap.size := hU.size
  replace OR := Lib.hid (OR.out.apart hU Lx2.out LR.out (by omega))
  replace Ox1 := Lib.hid (Ox1.out.apart hU Lx2.out Lx1.out (by omega))
  replace OG := Lib.hid (OG.out.apart hU Lx2.out LG.out (by omega))
  replace UW := Lib.hid (UW.out.afterOwn hU (fun k hk => Nat.le_trans (by omega) (Lx2.out k hk).1))
  replace Ox2 := Lib.hid hO
  clear hO hU
  go_wp2_with fail
  refine (eqInt64S_c _ _ _ _ _ _ (OG.out.ints) (OR.out.ints) hr).mono ?_
  rintro e w14 ⟨rfl, hU⟩
  have sw14 : w13.heap.size ≤ w14.heap.size := hU.size
  replace OR := Lib.hid (OR.out.kept0 hU)
  replace Ox1 := Lib.hid (Ox1.out.kept0 hU)
  replace Ox2 := Lib.hid (Ox2.out.kept0 hU)
  replace OG := Lib.hid (OG.out.kept0 hU)
  replace UW := Lib.hid (UW.out.then0 hU)
  clear hU
  clear Ox1 Lx1
  clear Ox2 Lx2
  go_wp2_with fail
  refine (markInt64S_c _ _ _ _ _ OG.out hr (by omega)).mono ?_
  rintro e w15 ⟨rfl, hO, hU⟩
  have sw15 : w14.heap.size ≤ w15.heap.size := hU.size
  replace OR := Lib.hid (OR.out.apart hU LG.out LR.out (by omega))
  replace UW := Lib.hid (UW.out.afterOwn hU (fun k hk => Nat.le_trans (by omega) (LG.out k hk).1))
  replace OG := Lib.hid hO
  clear hO hU
  go_wp2_with fail
  refine (heldInt64S_c _ _ _ _ _ (OG.out.ints) hr (by omega)).mono ?_
  rintro e w' ⟨rfl, rfl⟩
  go_wp2_with fail
  refine (toInt64S_c _ _ _ _ (H1.out _ UW.out) hl1).mono ?_
  rintro e w17 ⟨v, rfl, hO, hU⟩
  obtain ⟨by1, dy1, rfl, -, -⟩ := hO.intsAt
  have Ly1 := Lib.hid (World.ownsRow.lt (w := w17) hO)
  have sw17 : w15.heap.size ≤ w17.heap.size := hU.size
  replace OR := Lib.hid (OR.out.kept0 hU)
  replace OG := Lib.hid (OG.out.kept0 hU)
  replace UW := Lib.hid (UW.out.then0 hU)
  have Oy1 := Lib.hid hO
  clear hO hU
  go_wp2_with fail
  refine (toInt64S_c _ _ _ _ (H2.out _ UW.out) hl2).mono ?_
  rintro e w18 ⟨v, rfl, hO, hU⟩
  obtain ⟨by2, dy2, rfl, -, -⟩ := hO.intsAt
  have Ly2 := Lib.hid (World.ownsRow.lt (w := w18) hO)
  have sw18 : w17.heap.size ≤ w18.heap.size := hU.size
  replace OR := Lib.hid (OR.out.kept0 hU)
  replace OG := Lib.hid (OG.out.kept0 hU)
  replace Oy1 := Lib.hid (Oy1.out.kept0 hU)
  replace UW := Lib.hid (UW.out.then0 hU)
  have Oy2 := Lib.hid hO
  clear hO hU
  go_wp2_with fail
  refine (iMovesBetween_c _ _ _ _ _ _ _ _ (Oy1.out.ints) (Oy2.out.ints) hl1 hl2).mono ?_
  rintro e w19 ⟨v, rfl, hO, hU⟩
  obtain ⟨bK, dK, rfl, -, -⟩ := hO.intsAt
  have LK := Lib.hid (World.ownsRow.lt (w := w19) hO)
  have sw19 : w18.heap.size ≤ w19.heap.size := hU.size
  replace OR := Lib.hid (OR.out.kept0 hU)
  replace OG := Lib.hid (OG.out.kept0 hU)
  replace Oy1 := Lib.hid (Oy1.out.kept0 hU)
  replace Oy2 := Lib.hid (Oy2.out.kept0 hU)
  replace UW := Lib.hid (UW.out.then0 hU)
  have OK := Lib.hid hO
  clear hO hU
  go_wp2_with fail
  refine (eqInt64S_c _ _ _ _ _ _ (OK.out.ints) (OR.out.ints) hr).mono ?_
  rintro e w20 ⟨rfl, hU⟩
  have sw20 : w19.heap.size ≤ w20.heap.size := hU.size
  replace OR := Lib.hid (OR.out.kept0 hU)
  replace OG := Lib.hid (OG.out.kept0 hU)
  replace Oy1 := Lib.hid (Oy1.out.kept0 hU)
  replace Oy2 := Lib.hid (Oy2.out.kept0 hU)
  replace OK := Lib.hid (OK.out.kept0 hU)
  replace UW := Lib.hid (UW.out.then0 hU)
  clear hU
  go_wp2_with fail
  refine (heldInt64S_c _ _ _ _ _ (OG.out.ints) hr (by omega)).mono ?_
  rintro e w' ⟨rfl, rfl⟩
  go_wp2_with fail
  go_ret
  exact ⟨rfl, UW.out⟩
set_option maxHeartbeats 2000000 in
theorem FnExactMirrorLacing_walk (n0 : Int) (a1 : Option Addr) (c1 : Nat) (x1 : List Int) (w : World) (h1 : IntsAt w a1 x1) :
    Calls Try.prog 6 #[.int .i64 n0, .slice a1 x1.length c1] w (RetT w) := by
  by_cases hl1 : x1.length ≤ 1048576
  case neg =>
    have hg1 : (1048576 : Int) < (x1.length : Int) := by omega
    go_enter Try.func6, Try.ntmps6
    go_wp2_with fail
    go_ret
    exact ⟨rfl, Upd.refl _⟩
  have H1 : Hid (∀ w1, Upd [] w w1 → IntsAt w1 a1 x1) := fun w1 u => h1.kept0 u
  clear h1
  have hr : (mirL n0 x1).length ≤ 1048576 := Nat.le_trans (mirL_le n0 x1) hl1
  have UW : Hid (Upd [] w w) := Upd.refl w
  go_enter Try.func6, Try.ntmps6
  go_wp2_with fail
  refine (toInt64S_c _ _ _ _ (H1.out _ UW.out) hl1).mono ?_
  rintro e w1 ⟨v, rfl, hO, hU⟩
  obtain ⟨bs1, ds1, rfl, -, -⟩ := hO.intsAt
  have Ls1 := Lib.hid (World.ownsRow.lt (w := w1) hO)
  have sw1 : w.heap.size ≤ w1.heap.size := hU.size
  replace UW := Lib.hid (UW.out.then0 hU)
  have Os1 := Lib.hid hO
  clear hO hU
  go_wp2_with fail
  refine (sMirrorLacing_c _ _ _ _ _ (Os1.out.ints) hl1 (Os1.out.cap.1)).mono ?_
  rintro e w2 ⟨v, rfl, hO, hU⟩
  obtain ⟨bR, dR, rfl, -, -⟩ := hO.intsAt
  have LR := Lib.hid (World.ownsRow.lt (w := w2) hO)
  have sw2 : w1.heap.size ≤ w2.heap.size := hU.size
  replace Os1 := Lib.hid (Os1.out.kept0 hU)
  replace UW := Lib.hid (UW.out.then0 hU)
  have OR := Lib.hid hO
  clear hO hU
  clear Os1 Ls1
  go_wp2_with fail
  refine (toInt64S_c _ _ _ _ (H1.out _ UW.out) hl1).mono ?_
  rintro e w3 ⟨v, rfl, hO, hU⟩
  obtain ⟨bx1, dx1, rfl, -, -⟩ := hO.intsAt
  have Lx1 := Lib.hid (World.ownsRow.lt (w := w3) hO)
  have sw3 : w2.heap.size ≤ w3.heap.size := hU.size
  replace OR := Lib.hid (OR.out.kept0 hU)
  replace UW := Lib.hid (UW.out.then0 hU)
  have Ox1 := Lib.hid hO
  clear hO hU
  go_wp2_with fail
  refine (iMirrorLacing_c _ _ _ _ _ (Ox1.out.ints) hl1).mono ?_
  rintro e w4 ⟨v, rfl, hO, hU⟩
  obtain ⟨bG, dG, rfl, -, -⟩ := hO.intsAt
  have LG := Lib.hid (World.ownsRow.lt (w := w4) hO)
  have sw4 : w3.heap.size ≤ w4.heap.size := hU.size
  replace OR := Lib.hid (OR.out.kept0 hU)
  replace Ox1 := Lib.hid (Ox1.out.kept0 hU)
  replace UW := Lib.hid (UW.out.then0 hU)
  have OG := Lib.hid hO
  clear hO hU
  go_wp2_with fail
  refine (eqInt64S_c _ _ _ _ _ _ (OG.out.ints) (OR.out.ints) hr).mono ?_
  rintro e w5 ⟨rfl, hU⟩
  have sw5 : w4.heap.size ≤ w5.heap.size := hU.size
  replace OR := Lib.hid (OR.out.kept0 hU)
  replace Ox1 := Lib.hid (Ox1.out.kept0 hU)
  replace OG := Lib.hid (OG.out.kept0 hU)
  replace UW := Lib.hid (UW.out.then0 hU)
  clear hU
  go_wp2_with fail
  refine (toInt64S_c _ _ _ _ (H1.out _ UW.out) hl1).mono ?_
  rintro e w6 ⟨v, rfl, hO, hU⟩
  obtain ⟨bt1, dt1, rfl, -, -⟩ := hO.intsAt
  have Lt1 := Lib.hid (World.ownsRow.lt (w := w6) hO)
  have sw6 : w5.heap.size ≤ w6.heap.size := hU.size
  replace OR := Lib.hid (OR.out.kept0 hU)
  replace Ox1 := Lib.hid (Ox1.out.kept0 hU)
  replace OG := Lib.hid (OG.out.kept0 hU)
  replace UW := Lib.hid (UW.out.then0 hU)
  have Ot1 := Lib.hid hO
  clear hO hU
  go_wp2_with fail
  refine (eqInt64S_c _ _ _ _ _ _ (Ox1.out.ints) (Ot1.out.ints) hl1).mono ?_
  rintro e w7 ⟨rfl, hU⟩
  have sw7 : w6.heap.size ≤ w7.heap.size := hU.size
  replace OR := Lib.hid (OR.out.kept0 hU)
  replace Ox1 := Lib.hid (Ox1.out.kept0 hU)
  replace OG := Lib.hid (OG.out.kept0 hU)
  replace Ot1 := Lib.hid (Ot1.out.kept0 hU)
  replace UW := Lib.hid (UW.out.then0 hU)
  clear hU
  clear Ot1 Lt1
  go_wp2_with fail
  refine (markInt64S_c _ _ _ _ _ Ox1.out hl1 (by omega)).mono ?_
  rintro e w8 ⟨rfl, hO, hU⟩
  have sw8 : w7.heap.size ≤ w8.heap.size := hU.size
  replace OR := Lib.hid (OR.out.apart hU Lx1.out LR.out (by omega))
  replace OG := Lib.hid (OG.out.apart hU Lx1.out LG.out (by omega))
  replace UW := Lib.hid (UW.out.afterOwn hU (fun k hk => Nat.le_trans (by omega) (Lx1.out k hk).1))
  replace Ox1 := Lib.hid hO
  clear hO hU
  go_wp2_with fail
  refine (eqInt64S_c _ _ _ _ _ _ (OG.out.ints) (OR.out.ints) hr).mono ?_
  rintro e w9 ⟨rfl, hU⟩
  have sw9 : w8.heap.size ≤ w9.heap.size := hU.size
  replace OR := Lib.hid (OR.out.kept0 hU)
  replace Ox1 := Lib.hid (Ox1.out.kept0 hU)
  replace OG := Lib.hid (OG.out.kept0 hU)
  replace UW := Lib.hid (UW.out.then0 hU)
  clear hU
  clear Ox1 Lx1
  go_wp2_with fail
  refine (markInt64S_c _ _ _ _ _ OG.out hr (by omega)).mono ?_
  rintro e w10 ⟨rfl, hO, hU⟩
  have sw10 : w9.heap.size ≤ w10.heap.size := hU.size
  replace OR := Lib.hid (OR.out.apart hU LG.out LR.out (by omega))
  replace UW := Lib.hid (UW.out.afterOwn hU (fun k hk => Nat.le_trans (by omega) (LG.out k hk).1))
  replace OG := Lib.hid hO
  clear hO hU
  go_wp2_with fail
  refine (heldInt64S_c _ _ _ _ _ (OG.out.ints) hr (by omega)).mono ?_
  rintro e w' ⟨rfl, rfl⟩
  go_wp2_with fail
  refine (toInt64S_c _ _ _ _ (H1.out _ UW.out) hl1).mono ?_
  rintro e w12 ⟨v, rfl, hO, hU⟩
  obtain ⟨by1, dy1, rfl, -, -⟩ := hO.intsAt
  have Ly1 := Lib.hid (World.ownsRow.lt (w := w12) hO)
  have sw12 : w10.heap.size ≤ w12.heap.size := hU.size
  replace OR := Lib.hid (OR.out.kept0 hU)
  replace OG := Lib.hid (OG.out.kept0 hU)
  replace UW := Lib.hid (UW.out.then0 hU)
  have Oy1 := Lib.hid hO
  clear hO hU
  go_wp2_with fail
  refine (iMirrorLacing_c _ _ _ _ _ (Oy1.out.ints) hl1).mono ?_
  rintro e w13 ⟨v, rfl, hO, hU⟩
  obtain ⟨bK, dK, rfl, -, -⟩ := hO.intsAt
  have LK := Lib.hid (World.ownsRow.lt (w := w13) hO)
  have sw13 : w12.heap.size ≤ w13.heap.size := hU.size
  replace OR := Lib.hid (OR.out.kept0 hU)
  replace OG := Lib.hid (OG.out.kept0 hU)
  replace Oy1 := Lib.hid (Oy1.out.kept0 hU)
  replace UW := Lib.hid (UW.out.then0 hU)
  have OK := Lib.hid hO
  clear hO hU
  go_wp2_with fail
  refine (eqInt64S_c _ _ _ _ _ _ (OK.out.ints) (OR.out.ints) hr).mono ?_
  rintro e w14 ⟨rfl, hU⟩
  have sw14 : w13.heap.size ≤ w14.heap.size := hU.size
  replace OR := Lib.hid (OR.out.kept0 hU)
  replace OG := Lib.hid (OG.out.kept0 hU)
  replace Oy1 := Lib.hid (Oy1.out.kept0 hU)
  replace OK := Lib.hid (OK.out.kept0 hU)
  replace UW := Lib.hid (UW.out.then0 hU)
  clear hU
  go_wp2_with fail
  refine (heldInt64S_c _ _ _ _ _ (OG.out.ints) hr (by omega)).mono ?_
  rintro e w' ⟨rfl, rfl⟩
  go_wp2_with fail
  go_ret
  exact ⟨rfl, UW.out⟩
set_option maxHeartbeats 2000000 in
theorem FnExactRotateLacing_walk (n0 : Int) (a1 : Option Addr) (c1 : Nat) (x1 : List Int) (n2 : Int) (w : World) (h1 : IntsAt w a1 x1) :
    Calls Try.prog 7 #[.int .i64 n0, .slice a1 x1.length c1, .int .i64 n2] w (RetT w) := by
  by_cases hl1 : x1.length ≤ 1048576
  case neg =>
    have hg1 : (1048576 : Int) < (x1.length : Int) := by omega
    go_enter Try.func7, Try.ntmps7
    go_wp2_with fail
    go_ret
    exact ⟨rfl, Upd.refl _⟩
  have H1 : Hid (∀ w1, Upd [] w w1 → IntsAt w1 a1 x1) := fun w1 u => h1.kept0 u
  clear h1
  have hr : (rotL n0 x1 n2).length ≤ 1048576 := Nat.le_trans (rotL_le n0 x1 n2) hl1
  have UW : Hid (Upd [] w w) := Upd.refl w
  go_enter Try.func7, Try.ntmps7
  go_wp2_with fail
  refine (toInt64S_c _ _ _ _ (H1.out _ UW.out) hl1).mono ?_
  rintro e w1 ⟨v, rfl, hO, hU⟩
  obtain ⟨bs1, ds1, rfl, -, -⟩ := hO.intsAt
  have Ls1 := Lib.hid (World.ownsRow.lt (w := w1) hO)
  have sw1 : w.heap.size ≤ w1.heap.size := hU.size
  replace UW := Lib.hid (UW.out.then0 hU)
  have Os1 := Lib.hid hO
  clear hO hU
  go_wp2_with fail
  refine (sRotateLacing_c _ _ _ _ _ _ (Os1.out.ints) hl1 (Os1.out.cap.1)).mono ?_
  rintro e w2 ⟨v, rfl, hO, hU⟩
  obtain ⟨bR, dR, rfl, -, -⟩ := hO.intsAt
  have LR := Lib.hid (World.ownsRow.lt (w := w2) hO)
  have sw2 : w1.heap.size ≤ w2.heap.size := hU.size
  replace Os1 := Lib.hid (Os1.out.kept0 hU)
  replace UW := Lib.hid (UW.out.then0 hU)
  have OR := Lib.hid hO
  clear hO hU
  clear Os1 Ls1
  go_wp2_with fail
  refine (toInt64S_c _ _ _ _ (H1.out _ UW.out) hl1).mono ?_
  rintro e w3 ⟨v, rfl, hO, hU⟩
  obtain ⟨bx1, dx1, rfl, -, -⟩ := hO.intsAt
  have Lx1 := Lib.hid (World.ownsRow.lt (w := w3) hO)
  have sw3 : w2.heap.size ≤ w3.heap.size := hU.size
  replace OR := Lib.hid (OR.out.kept0 hU)
  replace UW := Lib.hid (UW.out.then0 hU)
  have Ox1 := Lib.hid hO
  clear hO hU
  go_wp2_with fail
  refine (iRotateLacing_c _ _ _ _ _ _ (Ox1.out.ints) hl1).mono ?_
  rintro e w4 ⟨v, rfl, hO, hU⟩
  obtain ⟨bG, dG, rfl, -, -⟩ := hO.intsAt
  have LG := Lib.hid (World.ownsRow.lt (w := w4) hO)
  have sw4 : w3.heap.size ≤ w4.heap.size := hU.size
  replace OR := Lib.hid (OR.out.kept0 hU)
  replace Ox1 := Lib.hid (Ox1.out.kept0 hU)
  replace UW := Lib.hid (UW.out.then0 hU)
  have OG := Lib.hid hO
  clear hO hU
  go_wp2_with fail
  refine (eqInt64S_c _ _ _ _ _ _ (OG.out.ints) (OR.out.ints) hr).mono ?_
  rintro e w5 ⟨rfl, hU⟩
  have sw5 : w4.heap.size ≤ w5.heap.size := hU.size
  replace OR := Lib.hid (OR.out.kept0 hU)
  replace Ox1 := Lib.hid (Ox1.out.kept0 hU)
  replace OG := Lib.hid (OG.out.kept0 hU)
  replace UW := Lib.hid (UW.out.then0 hU)
  clear hU
  go_wp2_with fail
  refine (toInt64S_c _ _ _ _ (H1.out _ UW.out) hl1).mono ?_
  rintro e w6 ⟨v, rfl, hO, hU⟩
  obtain ⟨bt1, dt1, rfl, -, -⟩ := hO.intsAt
  have Lt1 := Lib.hid (World.ownsRow.lt (w := w6) hO)
  have sw6 : w5.heap.size ≤ w6.heap.size := hU.size
  replace OR := Lib.hid (OR.out.kept0 hU)
  replace Ox1 := Lib.hid (Ox1.out.kept0 hU)
  replace OG := Lib.hid (OG.out.kept0 hU)
  replace UW := Lib.hid (UW.out.then0 hU)
  have Ot1 := Lib.hid hO
  clear hO hU
  go_wp2_with fail
  refine (eqInt64S_c _ _ _ _ _ _ (Ox1.out.ints) (Ot1.out.ints) hl1).mono ?_
  rintro e w7 ⟨rfl, hU⟩
  have sw7 : w6.heap.size ≤ w7.heap.size := hU.size
  replace OR := Lib.hid (OR.out.kept0 hU)
  replace Ox1 := Lib.hid (Ox1.out.kept0 hU)
  replace OG := Lib.hid (OG.out.kept0 hU)
  replace Ot1 := Lib.hid (Ot1.out.kept0 hU)
  replace UW := Lib.hid (UW.out.then0 hU)
  clear hU
  clear Ot1 Lt1
  go_wp2_with fail
  refine (markInt64S_c _ _ _ _ _ Ox1.out hl1 (by omega)).mono ?_
  rintro e w8 ⟨rfl, hO, hU⟩
  have sw8 : w7.heap.size ≤ w8.heap.size := hU.size
  replace OR := Lib.hid (OR.out.apart hU Lx1.out LR.out (by omega))
  replace OG := Lib.hid (OG.out.apart hU Lx1.out LG.out (by omega))
  replace UW := Lib.hid (UW.out.afterOwn hU (fun k hk => Nat.le_trans (by omega) (Lx1.out k hk).1))
  replace Ox1 := Lib.hid hO
  clear hO hU
  go_wp2_with fail
  refine (eqInt64S_c _ _ _ _ _ _ (OG.out.ints) (OR.out.ints) hr).mono ?_
  rintro e w9 ⟨rfl, hU⟩
  have sw9 : w8.heap.size ≤ w9.heap.size := hU.size
  replace OR := Lib.hid (OR.out.kept0 hU)
  replace Ox1 := Lib.hid (Ox1.out.kept0 hU)
  replace OG := Lib.hid (OG.out.kept0 hU)
  replace UW := Lib.hid (UW.out.then0 hU)
  clear hU
  clear Ox1 Lx1
  go_wp2_with fail
  refine (markInt64S_c _ _ _ _ _ OG.out hr (by omega)).mono ?_
  rintro e w10 ⟨rfl, hO, hU⟩
  have sw10 : w9.heap.size ≤ w10.heap.size := hU.size
  replace OR := Lib.hid (OR.out.apart hU LG.out LR.out (by omega))
  replace UW := Lib.hid (UW.out.afterOwn hU (fun k hk => Nat.le_trans (by omega) (LG.out k hk).1))
  replace OG := Lib.hid hO
  clear hO hU
  go_wp2_with fail
  refine (heldInt64S_c _ _ _ _ _ (OG.out.ints) hr (by omega)).mono ?_
  rintro e w' ⟨rfl, rfl⟩
  go_wp2_with fail
  refine (toInt64S_c _ _ _ _ (H1.out _ UW.out) hl1).mono ?_
  rintro e w12 ⟨v, rfl, hO, hU⟩
  obtain ⟨by1, dy1, rfl, -, -⟩ := hO.intsAt
  have Ly1 := Lib.hid (World.ownsRow.lt (w := w12) hO)
  have sw12 : w10.heap.size ≤ w12.heap.size := hU.size
  replace OR := Lib.hid (OR.out.kept0 hU)
  replace OG := Lib.hid (OG.out.kept0 hU)
  replace UW := Lib.hid (UW.out.then0 hU)
  have Oy1 := Lib.hid hO
  clear hO hU
  go_wp2_with fail
  refine (iRotateLacing_c _ _ _ _ _ _ (Oy1.out.ints) hl1).mono ?_
  rintro e w13 ⟨v, rfl, hO, hU⟩
  obtain ⟨bK, dK, rfl, -, -⟩ := hO.intsAt
  have LK := Lib.hid (World.ownsRow.lt (w := w13) hO)
  have sw13 : w12.heap.size ≤ w13.heap.size := hU.size
  replace OR := Lib.hid (OR.out.kept0 hU)
  replace OG := Lib.hid (OG.out.kept0 hU)
  replace Oy1 := Lib.hid (Oy1.out.kept0 hU)
  replace UW := Lib.hid (UW.out.then0 hU)
  have OK := Lib.hid hO
  clear hO hU
  go_wp2_with fail
  refine (eqInt64S_c _ _ _ _ _ _ (OK.out.ints) (OR.out.ints) hr).mono ?_
  rintro e w14 ⟨rfl, hU⟩
  have sw14 : w13.heap.size ≤ w14.heap.size := hU.size
  replace OR := Lib.hid (OR.out.kept0 hU)
  replace OG := Lib.hid (OG.out.kept0 hU)
  replace Oy1 := Lib.hid (Oy1.out.kept0 hU)
  replace OK := Lib.hid (OK.out.kept0 hU)
  replace UW := Lib.hid (UW.out.then0 hU)
  clear hU
  go_wp2_with fail
  refine (heldInt64S_c _ _ _ _ _ (OG.out.ints) hr (by omega)).mono ?_
  rintro e w' ⟨rfl, rfl⟩
  go_wp2_with fail
  go_ret
  exact ⟨rfl, UW.out⟩
set_option maxHeartbeats 2000000 in
theorem FnExactSwapSpokes_walk (n0 : Int) (a1 : Option Addr) (c1 : Nat) (x1 : List Int) (n2 : Int) (n3 : Int) (w : World) (h1 : IntsAt w a1 x1) :
    Calls Try.prog 8 #[.int .i64 n0, .slice a1 x1.length c1, .int .i64 n2, .int .i64 n3] w (RetT w) := by
  by_cases hl1 : x1.length ≤ 1048576
  case neg =>
    have hg1 : (1048576 : Int) < (x1.length : Int) := by omega
    go_enter Try.func8, Try.ntmps8
    go_wp2_with fail
    go_ret
    exact ⟨rfl, Upd.refl _⟩
  have H1 : Hid (∀ w1, Upd [] w w1 → IntsAt w1 a1 x1) := fun w1 u => h1.kept0 u
  clear h1
  have hr : (swpL n0 x1 n2 n3).length ≤ 1048576 := Nat.le_trans (swpL_le n0 x1 n2 n3) hl1
  have UW : Hid (Upd [] w w) := Upd.refl w
  go_enter Try.func8, Try.ntmps8
  go_wp2_with fail
  refine (toInt64S_c _ _ _ _ (H1.out _ UW.out) hl1).mono ?_
  rintro e w1 ⟨v, rfl, hO, hU⟩
  obtain ⟨bs1, ds1, rfl, -, -⟩ := hO.intsAt
  have Ls1 := Lib.hid (World.ownsRow.lt (w := w1) hO)
  have sw1 : w.heap.size ≤ w1.heap.size := hU.size
  replace UW := Lib.hid (UW.out.then0 hU)
  have Os1 := Lib.hid hO
  clear hO hU
  go_wp2_with fail
  refine (sSwapSpokes_c _ _ _ _ _ _ _ (Os1.out.ints) hl1 (Os1.out.cap.1)).mono ?_
  rintro e w2 ⟨v, rfl, hO, hU⟩
  obtain ⟨bR, dR, rfl, -, -⟩ := hO.intsAt
  have LR := Lib.hid (World.ownsRow.lt (w := w2) hO)
  have sw2 : w1.heap.size ≤ w2.heap.size := hU.size
  replace Os1 := Lib.hid (Os1.out.kept0 hU)
  replace UW := Lib.hid (UW.out.then0 hU)
  have OR := Lib.hid hO
  clear hO hU
  clear Os1 Ls1
  go_wp2_with fail
  refine (toInt64S_c _ _ _ _ (H1.out _ UW.out) hl1).mono ?_
  rintro e w3 ⟨v, rfl, hO, hU⟩
  obtain ⟨bx1, dx1, rfl, -, -⟩ := hO.intsAt
  have Lx1 := Lib.hid (World.ownsRow.lt (w := w3) hO)
  have sw3 : w2.heap.size ≤ w3.heap.size := hU.size
  replace OR := Lib.hid (OR.out.kept0 hU)
  replace UW := Lib.hid (UW.out.then0 hU)
  have Ox1 := Lib.hid hO
  clear hO hU
  go_wp2_with fail
  refine (iSwapSpokes_c _ _ _ _ _ _ _ (Ox1.out.ints) hl1).mono ?_
  rintro e w4 ⟨v, rfl, hO, hU⟩
  obtain ⟨bG, dG, rfl, -, -⟩ := hO.intsAt
  have LG := Lib.hid (World.ownsRow.lt (w := w4) hO)
  have sw4 : w3.heap.size ≤ w4.heap.size := hU.size
  replace OR := Lib.hid (OR.out.kept0 hU)
  replace Ox1 := Lib.hid (Ox1.out.kept0 hU)
  replace UW := Lib.hid (UW.out.then0 hU)
  have OG := Lib.hid hO
  clear hO hU
  go_wp2_with fail
  refine (eqInt64S_c _ _ _ _ _ _ (OG.out.ints) (OR.out.ints) hr).mono ?_
  rintro e w5 ⟨rfl, hU⟩
  have sw5 : w4.heap.size ≤ w5.heap.size := hU.size
  replace OR := Lib.hid (OR.out.kept0 hU)
  replace Ox1 := Lib.hid (Ox1.out.kept0 hU)
  replace OG := Lib.hid (OG.out.kept0 hU)
  replace UW := Lib.hid (UW.out.then0 hU)
  clear hU
  go_wp2_with fail
  refine (toInt64S_c _ _ _ _ (H1.out _ UW.out) hl1).mono ?_
  rintro e w6 ⟨v, rfl, hO, hU⟩
  obtain ⟨bt1, dt1, rfl, -, -⟩ := hO.intsAt
  have Lt1 := Lib.hid (World.ownsRow.lt (w := w6) hO)
  have sw6 : w5.heap.size ≤ w6.heap.size := hU.size
  replace OR := Lib.hid (OR.out.kept0 hU)
  replace Ox1 := Lib.hid (Ox1.out.kept0 hU)
  replace OG := Lib.hid (OG.out.kept0 hU)
  replace UW := Lib.hid (UW.out.then0 hU)
  have Ot1 := Lib.hid hO
  clear hO hU
  go_wp2_with fail
  refine (eqInt64S_c _ _ _ _ _ _ (Ox1.out.ints) (Ot1.out.ints) hl1).mono ?_
  rintro e w7 ⟨rfl, hU⟩
  have sw7 : w6.heap.size ≤ w7.heap.size := hU.size
  replace OR := Lib.hid (OR.out.kept0 hU)
  replace Ox1 := Lib.hid (Ox1.out.kept0 hU)
  replace OG := Lib.hid (OG.out.kept0 hU)
  replace Ot1 := Lib.hid (Ot1.out.kept0 hU)
  replace UW := Lib.hid (UW.out.then0 hU)
  clear hU
  clear Ot1 Lt1
  go_wp2_with fail
  refine (markInt64S_c _ _ _ _ _ Ox1.out hl1 (by omega)).mono ?_
  rintro e w8 ⟨rfl, hO, hU⟩
  have sw8 : w7.heap.size ≤ w8.heap.size := hU.size
  replace OR := Lib.hid (OR.out.apart hU Lx1.out LR.out (by omega))
  replace OG := Lib.hid (OG.out.apart hU Lx1.out LG.out (by omega))
  replace UW := Lib.hid (UW.out.afterOwn hU (fun k hk => Nat.le_trans (by omega) (Lx1.out k hk).1))
  replace Ox1 := Lib.hid hO
  clear hO hU
  go_wp2_with fail
  refine (eqInt64S_c _ _ _ _ _ _ (OG.out.ints) (OR.out.ints) hr).mono ?_
  rintro e w9 ⟨rfl, hU⟩
  have sw9 : w8.heap.size ≤ w9.heap.size := hU.size
  replace OR := Lib.hid (OR.out.kept0 hU)
  replace Ox1 := Lib.hid (Ox1.out.kept0 hU)
  replace OG := Lib.hid (OG.out.kept0 hU)
  replace UW := Lib.hid (UW.out.then0 hU)
  clear hU
  clear Ox1 Lx1
  go_wp2_with fail
  refine (markInt64S_c _ _ _ _ _ OG.out hr (by omega)).mono ?_
  rintro e w10 ⟨rfl, hO, hU⟩
  have sw10 : w9.heap.size ≤ w10.heap.size := hU.size
  replace OR := Lib.hid (OR.out.apart hU LG.out LR.out (by omega))
  replace UW := Lib.hid (UW.out.afterOwn hU (fun k hk => Nat.le_trans (by omega) (LG.out k hk).1))
  replace OG := Lib.hid hO
  clear hO hU
  go_wp2_with fail
  refine (heldInt64S_c _ _ _ _ _ (OG.out.ints) hr (by omega)).mono ?_
  rintro e w' ⟨rfl, rfl⟩
  go_wp2_with fail
  refine (toInt64S_c _ _ _ _ (H1.out _ UW.out) hl1).mono ?_
  rintro e w12 ⟨v, rfl, hO, hU⟩
  obtain ⟨by1, dy1, rfl, -, -⟩ := hO.intsAt
  have Ly1 := Lib.hid (World.ownsRow.lt (w := w12) hO)
  have sw12 : w10.heap.size ≤ w12.heap.size := hU.size
  replace OR := Lib.hid (OR.out.kept0 hU)
  replace OG := Lib.hid (OG.out.kept0 hU)
  replace UW := Lib.hid (UW.out.then0 hU)
  have Oy1 := Lib.hid hO
  clear hO hU
  go_wp2_with fail
  refine (iSwapSpokes_c _ _ _ _ _ _ _ (Oy1.out.ints) hl1).mono ?_
  rintro e w13 ⟨v, rfl, hO, hU⟩
  obtain ⟨bK, dK, rfl, -, -⟩ := hO.intsAt
  have LK := Lib.hid (World.ownsRow.lt (w := w13) hO)
  have sw13 : w12.heap.size ≤ w13.heap.size := hU.size
  replace OR := Lib.hid (OR.out.kept0 hU)
  replace OG := Lib.hid (OG.out.kept0 hU)
  replace Oy1 := Lib.hid (Oy1.out.kept0 hU)
  replace UW := Lib.hid (UW.out.then0 hU)
  have OK := Lib.hid hO
  clear hO hU
  go_wp2_with fail
  refine (eqInt64S_c _ _ _ _ _ _ (OK.out.ints) (OR.out.ints) hr).mono ?_
  rintro e w14 ⟨rfl, hU⟩
  have sw14 : w13.heap.size ≤ w14.heap.size := hU.size
  replace OR := Lib.hid (OR.out.kept0 hU)
  replace OG := Lib.hid (OG.out.kept0 hU)
  replace Oy1 := Lib.hid (Oy1.out.kept0 hU)
  replace OK := Lib.hid (OK.out.kept0 hU)
  replace UW := Lib.hid (UW.out.then0 hU)
  clear hU
  go_wp2_with fail
  refine (heldInt64S_c _ _ _ _ _ (OG.out.ints) hr (by omega)).mono ?_
  rintro e w' ⟨rfl, rfl⟩
  go_wp2_with fail
  go_ret
  exact ⟨rfl, UW.out⟩
end Go.Proofs.Ythmmdgebkgdgbaa
