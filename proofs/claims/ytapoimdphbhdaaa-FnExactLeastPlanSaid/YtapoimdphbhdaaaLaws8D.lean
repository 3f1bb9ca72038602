/- The walks of the exact laws of chapter 8. -/
import Derived.Test.YtapoimdphbhdaaaLawFns
import Derived.Test.YtapoimdphbhdaaaPlan
namespace Go.Proofs.Ytapoimdphbhdaaa
open Go.RowKit
set_option linter.unusedVariables false
set_option linter.unusedSimpArgs false
set_option maxHeartbeats 2000000 in
theorem FnExactLeastPlan_walk (a0 : Option Addr) (c0 : Nat) (x0 : List Int) (a1 : Option Addr) (c1 : Nat) (x1 : List Int) (n2 : Int) (w : World) (h0 : IntsAt w a0 x0) (h1 : IntsAt w a1 x1) :
    Calls Try.prog 11 #[.slice a0 x0.length c0, .slice a1 x1.length c1, .int .i64 n2] w (RetT w) := by
  by_cases hl0 : x0.length ≤ 1048576
  case neg =>
    have hg0 : (1048576 : Int) < (x0.length : Int) := by omega
    go_enter Try.func11, Try.ntmps11
    go_wp2_with fail
    go_ret
    exact ⟨rfl, Upd.refl _⟩
  by_cases hl1 : x1.length ≤ 1048576
  case neg =>
    have hg1 : (1048576 : Int) < (x1.length : Int) := by omega
    go_enter Try.func11, Try.ntmps11
    go_wp2_with fail
    go_ret
    exact ⟨rfl, Upd.refl _⟩
  have H0 : Hid (∀ w1, Upd [] w w1 → IntsAt w1 a0 x0) := fun w1 u => h0.kept0 u
  have H1 : Hid (∀ w1, Upd [] w w1 → IntsAt w1 a1 x1) := fun w1 u => h1.kept0 u
  clear h0 h1
  have hr : (lpL x0 x1 n2).length ≤ 1048576 := Nat.le_trans (lpL_le x0 x1 n2) hl0
  have UW : Hid (Upd [] w w) := Upd.refl w
  go_enter Try.func11, Try.ntmps11
  go_wp2_with fail
  refine (toInt64S_c _ _ _ _ (H0.out _ UW.out) hl0).mono ?_
  rintro e w1 ⟨v, rfl, hO, hU⟩
  obtain ⟨bs0, ds0, rfl, -, -⟩ := hO.intsAt
  have Ls0 := Lib.hid (World.ownsRow.lt (w := w1) hO)
  have sw1 : w.heap.size ≤ w1.heap.size := hU.size
  replace UW := Lib.hid (UW.out.then0 hU)
  have Os0 := Lib.hid hO
  clear hO hU
  go_wp2_with fail
  refine (toInt64S_c _ _ _ _ (H1.out _ UW.out) hl1).mono ?_
  rintro e w2 ⟨v, rfl, hO, hU⟩
  obtain ⟨bs1, ds1, rfl, -, -⟩ := hO.intsAt
  have Ls1 := Lib.hid (World.ownsRow.lt (w := w2) hO)
  have sw2 : w1.heap.size ≤ w2.heap.size := hU.size
  replace Os0 := Lib.hid (Os0.out.kept0 hU)
  replace UW := Lib.hid (UW.out.then0 hU)
  have Os1 := Lib.hid hO
  clear hO hU
  go_wp2_with fail
  refine (sLeastPlan_c _ _ _ _ _ _ _ _ (Os0.out.ints) (Os1.out.ints) hl0 hl1).mono ?_
  rintro e w3 ⟨v, rfl, hO, hU⟩
  obtain ⟨bR, dR, rfl, -, -⟩ := hO.intsAt
  have LR := Lib.hid (World.ownsRow.lt (w := w3) hO)
  have sw3 : w2.heap.size ≤ w3.heap.size := hU.size
  replace Os0 := Lib.hid (Os0.out.kept0 hU)
  replace Os1 := Lib.hid (Os1.out.kept0 hU)
  replace UW := Lib.hid (UW.out.then0 hU)
  have OR := Lib.hid hO
  clear hO hU
  clear Os0 Ls0
  clear Os1 Ls1
  go_wp2_with fail
  refine (toInt64S_c _ _ _ _ (H0.out _ UW.out) hl0).mono ?_
  rintro e w4 ⟨v, rfl, hO, hU⟩
  obtain ⟨bx0, dx0, rfl, -, -⟩ := hO.intsAt
  have Lx0 := Lib.hid (World.ownsRow.lt (w := w4) hO)
  have sw4 : w3.heap.size ≤ w4.heap.size := hU.size
  replace OR := Lib.hid (OR.out.kept0 hU)
  replace UW := Lib.hid (UW.out.then0 hU)
  have Ox0 := Lib.hid hO
  clear hO hU
  go_wp2_with fail
  refine (toInt64S_c _ _ _ _ (H1.out _ UW.out) hl1).mono ?_
  rintro e w5 ⟨v, rfl, hO, hU⟩
  obtain ⟨bx1, dx1, rfl, -, -⟩ := hO.intsAt
  have Lx1 := Lib.hid (World.ownsRow.lt (w := w5) hO)
  have sw5 : w4.heap.size ≤ w5.heap.size := hU.size
  replace OR := Lib.hid (OR.out.kept0 hU)
  replace Ox0 := Lib.hid (Ox0.out.kept0 hU)
  replace UW := Lib.hid (UW.out.then0 hU)
  have Ox1 := Lib.hid hO
  clear hO hU
  go_wp2_with fail
  refine (iLeastPlan_c _ _ _ _ _ _ _ _ (Ox0.out.ints) (Ox1.out.ints) hl0 hl1).mono ?_
  rintro e w6 ⟨v, rfl, hO, hU⟩
  obtain ⟨bG, dG, rfl, -, -⟩ := hO.intsAt
  have LG := Lib.hid (World.ownsRow.lt (w := w6) hO)
  have sw6 : w5.heap.size ≤ w6.heap.size := hU.size
  replace OR := Lib.hid (OR.out.kept0 hU)
  replace Ox0 := Lib.hid (Ox0.out.kept0 hU)
  replace Ox1 := Lib.hid (Ox1.out.kept0 hU)
  replace UW := Lib.hid (UW.out.then0 hU)
  have OG := Lib.hid hO
  clear hO hU
  go_wp2_with fail
  refine (eqInt64S_c _ _ _ _ _ _ (OG.out.ints) (OR.out.ints) hr).mono ?_
  rintro e w7 ⟨rfl, hU⟩
  have sw7 : w6.heap.size ≤ w7.heap.size := hU.size
  replace OR := Lib.hid (OR.out.kept0 hU)
  replace Ox0 := Lib.hid (Ox0.out.kept0 hU)
  replace Ox1 := Lib.hid (Ox1.out.kept0 hU)
  replace OG := Lib.hid (OG.out.kept0 hU)
  replace UW := Lib.hid (UW.out.then0 hU)
  clear hU
  go_wp2_with fail
  refine (toInt64S_c _ _ _ _ (H0.out _ UW.out) hl0).mono ?_
  rintro e w8 ⟨v, rfl, hO, hU⟩
  obtain ⟨bt0, dt0, rfl, -, -⟩ := hO.intsAt
  have Lt0 := Lib.hid (World.ownsRow.lt (w := w8) hO)
  have sw8 : w7.heap.size ≤ w8.heap.size := hU.size
  replace OR := Lib.hid (OR.out.kept0 hU)
  replace Ox0 := Lib.hid (Ox0.out.kept0 hU)
  replace Ox1 := Lib.hid (Ox1.out.kept0 hU)
  replace OG := Lib.hid (OG.out.kept0 hU)
  replace UW := Lib.hid (UW.out.then0 hU)
  have Ot0 := Lib.hid hO
  clear hO hU
  go_wp2_with fail
  refine (eqInt64S_c _ _ _ _ _ _ (Ox0.out.ints) (Ot0.out.ints) hl0).mono ?_
  rintro e w9 ⟨rfl, hU⟩
  have sw9 : w8.heap.size ≤ w9.heap.size := hU.size
  replace OR := Lib.hid (OR.out.kept0 hU)
  replace Ox0 := Lib.hid (Ox0.out.kept0 hU)
  replace Ox1 := Lib.hid (Ox1.out.kept0 hU)
  replace OG := Lib.hid (OG.out.kept0 hU)
  replace Ot0 := Lib.hid (Ot0.out.kept0 hU)
  replace UW := Lib.hid (UW.out.then0 hU)
  clear hU
  clear Ot0 Lt0
  go_wp2_with fail
  refine (toInt64S_c _ _ _ _ (H1.out _ UW.out) hl1).mono ?_
  rintro e w10 ⟨v, rfl, hO, hU⟩
  obtain ⟨bt1, dt1, rfl, -, -⟩ := hO.intsAt
  have Lt1 := Lib.hid (World.ownsRow.lt (w := w10) hO)
  have sw10 : w9.heap.size ≤ w10.heap.size := hU.size
  replace OR := Lib.hid (OR.out.kept0 hU)
  replace Ox0 := Lib.hid (Ox0.out.kept0 hU)
  replace Ox1 := Lib.hid (Ox1.out.kept0 hU)
  replace OG := Lib.hid (OG.out.kept0 hU)
  replace UW := Lib.hid (UW.out.then0 hU)
  have Ot1 := Lib.hid hO
  clear hO hU
  go_wp2_with fail
  refine (eqInt64S_c _ _ _ _ _ _ (Ox1.out.ints) (Ot1.out.ints) hl1).mono ?_
  rintro e w11 ⟨rfl, hU⟩
  have sw11 : w10.heap.size ≤ w11.heap.size := hU.size
  replace OR := Lib.hid (OR.out.kept0 hU)
  replace Ox0 := Lib.hid (Ox0.out.kept0 hU)
  replace Ox1 := Lib.hid (Ox1.out.kept0 hU)
  replace OG := Lib.hid (OG.out.kept0 hU)
  replace Ot1 := Lib.hid (Ot1.out.kept0 hU)
  replace UW := Lib.hid (UW.out.then0 hU)
  clear hU
  clear Ot1 Lt1
  go_wp2_with fail
  refine (markInt64S_c _ _ _ _ _ Ox0.out hl0 (by omega)).mono ?_
  rintro e w12 ⟨rfl, hO, hU⟩
  have sw12 : w11.heap.size ≤ w12.heap.size := hU.size
  replace OR := Lib.hid (OR.out.apart hU Lx0.out LR.out (by omega))
  replace Ox1 := Lib.hid (Ox1.out.apart hU Lx0.out Lx1.out (by omega))
  replace OG := Lib.hid (OG.out.apart hU Lx0.out LG.out (by omega))
  replace UW := Lib.hid (UW.out.afterOwn hU (fun k hk => Nat.le_trans (by omega) (Lx0.out k hk).1))
  replace Ox0 := Lib.hid hO
  clear hO hU
  go_wp2_with fail
  refine (markInt64S_c _ _ _ _ _ Ox1.out hl1 (by omega)).mono ?_
  rintro e w13 ⟨rfl, hO, hU⟩
  have sw13 : w12.heap.size ≤ w13.heap.size := hU.size
  replace OR := Lib.hid (OR.out.apart hU Lx1.out LR.out (by omega))
  replace Ox0 := Lib.hid (Ox0.out.apart hU Lx1.out Lx0.out (by omega))
  replace OG := Lib.hid (OG.out.apart hU Lx1.out LG.out (by omega))
  replace UW := Lib.hid (UW.out.afterOwn hU (fun k hk => Nat.le_trans (by omega) (Lx1.out k hk).1))
  replace Ox1 := Lib.hid hO
  clear hO hU
  go_wp2_with fail
  refine (eqInt64S_c _ _ _ _ _ _ (OG.out.ints) (OR.out.ints) hr).mono ?_
  rintro e w14 ⟨rfl, hU⟩
  have sw14 : w13.heap.size ≤ w14.heap.size := hU.size
  replace OR := Lib.hid (OR.out.kept0 hU)
  replace Ox0 := Lib.hid (Ox0.out.kept0 hU)
  replace Ox1 := Lib.hid (Ox1.out.kept0 hU)
  replace OG := Lib.hid (OG.out.kept0 hU)
  replace UW := Lib.hid (UW.out.then0 hU)
  clear hU
  clear Ox0 Lx0
  clear Ox1 Lx1
  go_wp2_with fail
  refine (markInt64S_c _ _ _ _ _ OG.out hr (by omega)).mono ?_
  rintro e w15 ⟨rfl, hO, hU⟩
  have sw15 : w14.heap.size ≤ w15.heap.size := hU.size
  replace OR := Lib.hid (OR.out.apart hU LG.out LR.out (by omega))
  replace UW := Lib.hid (UW.out.afterOwn hU (fun k hk => Nat.le_trans (by omega) (LG.out k hk).1))
  replace OG := Lib.hid hO
  clear hO hU
  go_wp2_with fail
  refine (heldInt64S_c _ _ _ _ _ (OG.out.ints) hr (by omega)).mono ?_
  rintro e w' ⟨rfl, rfl⟩
  go_wp2_with fail
  refine (toInt64S_c _ _ _ _ (H0.out _ UW.out) hl0).mono ?_
  rintro e w17 ⟨v, rfl, hO, hU⟩
  obtain ⟨by0, dy0, rfl, -, -⟩ := hO.intsAt
  have Ly0 := Lib.hid (World.ownsRow.lt (w := w17) hO)
  have sw17 : w15.heap.size ≤ w17.heap.size := hU.size
  replace OR := Lib.hid (OR.out.kept0 hU)
  replace OG := Lib.hid (OG.out.kept0 hU)
  replace UW := Lib.hid (UW.out.then0 hU)
  have Oy0 := Lib.hid hO
  clear hO hU
  go_wp2_with fail
  refine (toInt64S_c _ _ _ _ (H1.out _ UW.out) hl1).mono ?_
  rintro e w18 ⟨v, rfl, hO, hU⟩
  obtain ⟨by1, dy1, rfl, -, -⟩ := hO.intsAt
  have Ly1 := Lib.hid (World.ownsRow.lt (w := w18) hO)
  have sw18 : w17.heap.size ≤ w18.heap.size := hU.size
  replace OR := Lib.hid (OR.out.kept0 hU)
  replace OG := Lib.hid (OG.out.kept0 hU)
  replace Oy0 := Lib.hid (Oy0.out.kept0 hU)
  replace UW := Lib.hid (UW.out.then0 hU)
  have Oy1 := Lib.hid hO
  clear hO hU
  go_wp2_with fail
  refine (iLeastPlan_c _ _ _ _ _ _ _ _ (Oy0.out.ints) (Oy1.out.ints) hl0 hl1).mono ?_
  rintro e w19 ⟨v, rfl, hO, hU⟩
  obtain ⟨bK, dK, rfl, -, -⟩ := hO.intsAt
  have LK := Lib.hid (World.ownsRow.lt (w := w19) hO)
  have sw19 : w18.heap.size ≤ w19.heap.size := hU.size
  replace OR := Lib.hid (OR.out.kept0 hU)
  replace OG := Lib.hid (OG.out.kept0 hU)
  replace Oy0 := Lib.hid (Oy0.out.kept0 hU)
  replace Oy1 := Lib.hid (Oy1.out.kept0 hU)
  replace UW := Lib.hid (UW.out.then0 hU)
  have OK := Lib.hid hO
  clear hO hU
  go_wp2_with fail
  refine (eqInt64S_c _ _ _ _ _ _ (OK.out.ints) (OR.out.ints) hr).mono ?_
  rintro e w20 ⟨rfl, hU⟩
  have sw20 : w19.heap.size ≤ w20.heap.size := hU.size
  replace OR := Lib.hid (OR.out.kept0 hU)
  replace OG := Lib.hid (OG.out.kept0 hU)
  replace Oy0 := Lib.hid (Oy0.out.kept0 hU)
  replace Oy1 := Lib.hid (Oy1.out.kept0 hU)
  replace OK := Lib.hid (OK.out.kept0 hU)
  replace UW := Lib.hid (UW.out.then0 hU)
  clear hU
  go_wp2_with fail
  refine (heldInt64S_c _ _ _ _ _ (OG.out.ints) hr (by omega)).mono ?_
  rintro e w' ⟨rfl, rfl⟩
  go_wp2_with fail
  go_ret
  exact ⟨rfl, UW.out⟩
end Go.Proofs.Ytapoimdphbhdaaa
