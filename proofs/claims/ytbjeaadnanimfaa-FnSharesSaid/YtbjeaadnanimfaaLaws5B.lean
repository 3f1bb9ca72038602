/- The law of the shares: the crosses for a length come nearest to it; shares of a mirrored wheel are the other way round. -/
import Derived.Test.YtbjeaadnanimfaaCross
import Derived.Test.YtbjeaadnanimfaaShare
import Derived.Test.YtbjeaadnanimfaaDrawC
import Derived.Test.YtbjeaadnanimfaaRowL
import Derived.Deep.CutBlock
import Derived.Lib.MinMax
namespace Go.Proofs.Ytbjeaadnanimfaa
open Go.RowKit
set_option linter.unusedVariables false
set_option linter.unusedSimpArgs false

theorem max_iabs {x y a b n : Int} (h : iabs (a - n) ≤ iabs (b - n)) : ¬ max (b - n) (n - b) < max (a - n) (n - a) := by
  unfold iabs at h
  split at h <;> split at h <;> omega
set_option maxRecDepth 20000 in
set_option maxHeartbeats 6400000 in
theorem FnShares_walk (a : Option Addr) (c : Nat) (bs : List Int) (w : World) (h : U8At w a bs) : Calls Try.prog 5 #[.slice a bs.length c] w (RetT w) := by
  have HC := Lib.hid h
  clear h
  by_cases hl : bs.length ≤ 4096
  case neg =>
    go_enter Try.func5, Try.ntmps5
    go_wp2_with (go_at_call 6; refine (big_x _ _ _ _ hl).mono ?_; rintro e w' ⟨rfl, rfl⟩)
    go_ret
    exact ⟨rfl, Upd.refl _⟩
  go_enter Try.func5, Try.ntmps5
  go_wp2_with (go_at_call 6; refine (big_y _ _ _ _ hl).mono ?_; rintro e w' ⟨rfl, rfl⟩)
  refine (DrawCrossesFor_c a c bs _ HC.out hl).mono ?_
  rintro e wn ⟨h, l, r, lo, ro, rh, d, o, k, b, n, rfl, hu⟩
  have U := Lib.hid hu
  replace HC : Hid (∀ w', Upd [] wn w' → U8At w' a bs) := fun w' u => (HC.out.kept0 hu).kept0 u
  clear hu
  have bX : Blk (wn.alloc (.cells #[.int .i64 h, .int .i64 l, .int .i64 r, .int .i64 lo, .int .i64 ro, .int .i64 rh, .int .i64 d, .int .i64 o, .int .i64 k] 34)) wn.heap.size [h, l, r, lo, ro, rh, d, o, k] 34 := Blk.new wn [h, l, r, lo, ro, rh, d, o, k] _
  have uX : Upd [] wn (wn.alloc (.cells #[.int .i64 h, .int .i64 l, .int .i64 r, .int .i64 lo, .int .i64 ro, .int .i64 rh, .int .i64 d, .int .i64 o, .int .i64 k] 34)) := (Upd.refl wn).alloc _
  have HXA : Hid (∀ w', Upd [] (wn.alloc (.cells #[.int .i64 h, .int .i64 l, .int .i64 r, .int .i64 lo, .int .i64 ro, .int .i64 rh, .int .i64 d, .int .i64 o, .int .i64 k] 34)) w' → WhC w' wn.heap.size h l r lo ro rh d o k) := fun w' u => (bX.kept0 u).whC
  have V : Hid (Upd [] (wn.alloc (.cells #[.int .i64 h, .int .i64 l, .int .i64 r, .int .i64 lo, .int .i64 ro, .int .i64 rh, .int .i64 d, .int .i64 o, .int .i64 k] 34)) (wn.alloc (.cells #[.int .i64 h, .int .i64 l, .int .i64 r, .int .i64 lo, .int .i64 ro, .int .i64 rh, .int .i64 d, .int .i64 o, .int .i64 k] 34))) := Upd.refl _
  replace U := Lib.hid (U.out.then0 uX)
  replace HC := Lib.hid (fun w' u => HC.out w' (uX.then0 u))
  clear bX uX
  obtain ⟨c0, c1, c2, c3, c4, c5, c6, c7, c8⟩ := HXA.out _ V.out
  go_wp2_with fail
  clear c0 c1 c2 c3 c4 c5 c6 c7 c8
  generalize wn.heap.size = XA at HXA ⊢
  generalize wn.alloc (.cells #[.int .i64 h, .int .i64 l, .int .i64 r, .int .i64 lo, .int .i64 ro, .int .i64 rh, .int .i64 d, .int .i64 o, .int .i64 k] 34) = w2 at HXA V U HC ⊢
  refine (iCrossesFor_c h l r lo ro rh d o k n b _).mono ?_
  rintro e w3 ⟨rfl, hu⟩
  replace V := Lib.hid (V.out.then0 hu)
  clear hu
  obtain ⟨c0, c1, c2, c3, c4, c5, c6, c7, c8⟩ := HXA.out _ V.out
  go_wp2_with fail
  clear c0 c1 c2 c3 c4 c5 c6 c7 c8
  refine (sCrossesFor_c h l r lo ro rh d o k n b _).mono ?_
  rintro e w4 ⟨rfl, hu⟩
  replace V := Lib.hid (V.out.then0 hu)
  clear hu
  have HG := Lib.hid (@crs_law h l r lo ro rh d o k n b)
  generalize crsR h l r lo ro rh d o k n b = C at HG ⊢
  generalize crsE h l r lo ro rh d o k n = E1 at HG ⊢
  go_wp2_with fail
  refine (DrawTensionShare_c a c bs _ (HC.out _ V.out) hl).mono ?_
  rintro e wn ⟨h2, l2, r2, lo2, ro2, rh2, d2, o2, k2, rfl, hu⟩
  have UB := Lib.hid ((U.out.then0 V.out).then0 hu)
  replace HXA := Lib.hid (fun w' u => HXA.out w' ((V.out.then0 hu).then0 u))
  clear hu V U
  have U := UB
  clear UB
  clear HC hl
  have bX : Blk (wn.alloc (.cells #[.int .i64 h2, .int .i64 l2, .int .i64 r2, .int .i64 lo2, .int .i64 ro2, .int .i64 rh2, .int .i64 d2, .int .i64 o2, .int .i64 k2] 34)) wn.heap.size [h2, l2, r2, lo2, ro2, rh2, d2, o2, k2] 34 := Blk.new wn [h2, l2, r2, lo2, ro2, rh2, d2, o2, k2] _
  have uX : Upd [] wn (wn.alloc (.cells #[.int .i64 h2, .int .i64 l2, .int .i64 r2, .int .i64 lo2, .int .i64 ro2, .int .i64 rh2, .int .i64 d2, .int .i64 o2, .int .i64 k2] 34)) := (Upd.refl wn).alloc _
  have HXB : Hid (∀ w', Upd [] (wn.alloc (.cells #[.int .i64 h2, .int .i64 l2, .int .i64 r2, .int .i64 lo2, .int .i64 ro2, .int .i64 rh2, .int .i64 d2, .int .i64 o2, .int .i64 k2] 34)) w' → WhC w' wn.heap.size h2 l2 r2 lo2 ro2 rh2 d2 o2 k2) := fun w' u => (bX.kept0 u).whC
  have V : Hid (Upd [] (wn.alloc (.cells #[.int .i64 h2, .int .i64 l2, .int .i64 r2, .int .i64 lo2, .int .i64 ro2, .int .i64 rh2, .int .i64 d2, .int .i64 o2, .int .i64 k2] 34)) (wn.alloc (.cells #[.int .i64 h2, .int .i64 l2, .int .i64 r2, .int .i64 lo2, .int .i64 ro2, .int .i64 rh2, .int .i64 d2, .int .i64 o2, .int .i64 k2] 34))) := Upd.refl _
  replace U := Lib.hid (U.out.then0 uX)
  replace HXA := Lib.hid (fun w' u => HXA.out w' (uX.then0 u))
  clear bX uX
  obtain ⟨c0, c1, c2, c3, c4, c5, c6, c7, c8⟩ := HXB.out _ V.out
  go_wp2_with fail
  clear c0 c1 c2 c3 c4 c5 c6 c7 c8
  generalize wn.heap.size = XB at HXB ⊢
  generalize wn.alloc (.cells #[.int .i64 h2, .int .i64 l2, .int .i64 r2, .int .i64 lo2, .int .i64 ro2, .int .i64 rh2, .int .i64 d2, .int .i64 o2, .int .i64 k2] 34) = w5 at HXB V U HXA ⊢
  refine (iTensionShare_c h2 l2 r2 lo2 ro2 rh2 d2 o2 k2 _).mono ?_
  rintro e w6 ⟨rfl, hu⟩
  replace V := Lib.hid (V.out.then0 hu)
  clear hu
  obtain ⟨c0, c1, c2, c3, c4, c5, c6, c7, c8⟩ := HXB.out _ V.out
  go_wp2_with fail
  clear c0 c1 c2 c3 c4 c5 c6 c7 c8
  refine (sTensionShare_c h2 l2 r2 lo2 ro2 rh2 d2 o2 k2 _).mono ?_
  rintro e w7 ⟨rfl, hu⟩
  replace V := Lib.hid (V.out.then0 hu)
  clear hu
  have HG2 := Lib.hid (@sh_law h2 l2 r2 lo2 ro2 rh2 d2 o2 k2)
  generalize shR h2 l2 r2 lo2 ro2 rh2 d2 o2 k2 = S at HG2 ⊢
  generalize shE h2 l2 r2 lo2 ro2 rh2 d2 o2 k2 = E2 at HG2 ⊢
  go_upto_if 78 with fail
  go_cut [] from 77 (fun wx => Hid (Upd [] w5 wx))
  case first =>
    clear HG HXA
    by_cases e2 : E2 = 0
    · subst e2
      obtain ⟨T, G⟩ := HG2.out rfl
      have GG := Lib.hid G
      clear G HG2
      obtain ⟨c0, c1, c2, c3, c4, c5, c6, c7, c8⟩ := HXB.out _ V.out
      go_wp2_with fail
      clear c0 c1 c2 c3 c4 c5 c6 c7 c8
      refine (iMirrorWheel_c h2 l2 r2 lo2 ro2 rh2 d2 o2 k2 _ GG.out.wh).mono ?_
      rintro e wn ⟨rfl, hu⟩
      have Z := Lib.hid (V.out.then0 hu)
      clear hu
      have bX : Blk (wn.alloc (.cells #[.int .i64 h2, .int .i64 r2, .int .i64 l2, .int .i64 ro2, .int .i64 lo2, .int .i64 rh2, .int .i64 d2, .int .i64 (-o2), .int .i64 k2] 34)) wn.heap.size [h2, r2, l2, ro2, lo2, rh2, d2, -o2, k2] 34 := Blk.new wn [h2, r2, l2, ro2, lo2, rh2, d2, -o2, k2] _
      obtain ⟨c0, c1, c2, c3, c4, c5, c6, c7, c8⟩ := bX.whC
      replace Z := Lib.hid (Z.out.alloc (.cells #[.int .i64 h2, .int .i64 r2, .int .i64 l2, .int .i64 ro2, .int .i64 lo2, .int .i64 rh2, .int .i64 d2, .int .i64 (-o2), .int .i64 k2] 34))
      clear bX V
      go_wp2_with fail
      refine (iTensionShare_c h2 r2 l2 ro2 lo2 rh2 d2 (-o2) k2 _).mono ?_
      rintro e w9 ⟨rfl, hu⟩
      replace Z := Lib.hid (Z.out.then0 hu)
      clear hu c0 c1 c2 c3 c4 c5 c6 c7 c8 HXB
      rw [GG.out.mE, GG.out.mR]
      have hp := GG.out.pos
      have ho := GG.out.one
      have hx1 : ¬ S < 0 := by omega
      clear GG
      by_cases hs : S ≤ 1000
      · have hx2 : ¬ 1000 < S := by omega
        go_wp2_with fail
        go_meet
        case rel => exact Z
      · have hx2 : 1000 < S := by omega
        have hx3 : ¬ 1000 < T := by omega
        go_wp2_with fail
        go_meet
        case rel => exact Z
    · clear HG2
      go_wp2_with fail
      go_meet
      case rel => exact V
  case rest =>
    clear HG2 V HXB
    have V := hcut
    clear hcut
    by_cases e1 : E1 = 0
    case neg =>
      clear HG HXA
      go_wp2_with fail
      go_ret
      exact ⟨rfl, U.out.then0 V.out⟩
    case pos =>
    subst e1
    obtain ⟨N, G⟩ := HG.out rfl
    have HJ : Hid (∀ j : Nat, j < N → lenR h l r lo ro rh d o j b = lenV h l r lo ro rh d o j b ∧ whE h l r lo ro rh d o j = 0 ∧ (388 ≤ lenV h l r lo ro rh d o j b ∧ lenV h l r lo ro rh d o j b ≤ 4132) ∧ iabs (lenV h l r lo ro rh d o C b - n) ≤ iabs (lenV h l r lo ro rh d o j b - n)) := fun j hj => by
      have hn := G.n
      have q := whB_k G.wh (j := (j : Int)) (by omega)
      exact ⟨lenR_mk b q, whE_mk q, (lenV_in b q).2, G.near j hj⟩
    have HC0 : Hid (lenR h l r lo ro rh d o C b = lenV h l r lo ro rh d o C b ∧ whE h l r lo ro rh d o C = 0 ∧ (388 ≤ lenV h l r lo ro rh d o C b ∧ lenV h l r lo ro rh d o C b ≤ 4132)) := by
      have hn := G.n
      have hc := G.c
      have q := whB_k G.wh (j := C) (by omega)
      exact ⟨lenR_mk b q, whE_mk q, (lenV_in b q).2⟩
    have hnb := G.lb
    have hN := G.n
    obtain ⟨⟨hh1, hh2, hh3⟩, -⟩ := whB_t G.wh
    have hq4 : IntKind.i64.wrap (h.tdiv 4) = (N : Int) := by rw [Int.tdiv_eq_ediv_of_nonneg (by omega), hN.1]; exact IntWalk.i64_in _ (by omega)
    have hN12 := hN.2
    clear HG G hN hh1 hh2 hh3
    obtain ⟨OL, hOL⟩ : ∃ x, x = lenV h l r lo ro rh d o C b := ⟨_, rfl⟩
    rw [← hOL] at HJ HC0
    clear hOL
    have HQ4 := Lib.hid hq4
    clear hq4
    go_upto_region 18 with fail
    obtain ⟨w10, ew10⟩ : ∃ W, W = wc := ⟨_, rfl⟩
    subst ew10
    obtain ⟨c0, c1, c2, c3, c4, c5, c6, c7, c8⟩ := HXA.out _ V.out
    obtain ⟨XB, hXB⟩ : ∃ X, w10.heap.size = X := ⟨_, rfl⟩
    have b0 : Blk (w10.alloc (.cells #[.int .i64 h, .int .i64 l, .int .i64 r, .int .i64 lo, .int .i64 ro, .int .i64 rh, .int .i64 d, .int .i64 o, .int .i64 C] 34)) w10.heap.size [h, l, r, lo, ro, rh, d, o, C] 34 := Blk.new w10 [h, l, r, lo, ro, rh, d, o, C] _
    have u0 : Upd [] w5 (w10.alloc (.cells #[.int .i64 h, .int .i64 l, .int .i64 r, .int .i64 lo, .int .i64 ro, .int .i64 rh, .int .i64 d, .int .i64 o, .int .i64 C] 34)) := V.out.alloc _
    have hws := V.out.size
    rw [hXB] at b0
    have HWS : Hid (w5.heap.size ≤ XB) := by show _ ≤ _; omega
    have BX := Lib.hid b0
    have V0 := Lib.hid u0
    clear b0 u0 hws
    go_wp2_with fail
    try rw [hXB]
    clear hXB c0 c1 c2 c3 c4 c5 c6 c7 c8 V
    refine (iSpokeLength_c h l r lo ro rh d o C b _).mono ?_
    rintro e w11 ⟨rfl, hu⟩
    have V := Lib.hid (V0.out.then0 hu)
    replace BX : Hid (∃ x, Blk w11 XB [h, l, r, lo, ro, rh, d, o, x] 34) := ⟨_, BX.out.kept0 hu⟩
    clear hu V0
    rw [HC0.out.1, HC0.out.2.1]
    have hOLb := HC0.out.2.2
    clear HC0
    have hq4 : IntKind.i64.wrap (h.tdiv 4) = (N : Int) := HQ4.out
    go_wp2_with fail
    go_loopw [22] (fun i wr => ∃ j : Nat, j ≤ N ∧ i = .int .i64 j ∧ Hid (∃ x, Blk wr XB [h, l, r, lo, ro, rh, d, o, x] 34) ∧ Hid (Upd [] w5 wr)) (fun i _ => N - (intOf i).toNat)
    case atStart => exact ⟨0, by omega, rfl, BX, V⟩
    case round =>
      clear V BX
      obtain ⟨j, hj, rfl, BX, V⟩ := hrel
      obtain ⟨w12, ew12⟩ : ∃ x : World, x = wr := ⟨_, rfl⟩
      subst ew12
      obtain ⟨a0, -⟩ := HXA.out _ V.out
      by_cases hlt : j < N
      · obtain ⟨x, hbx⟩ := BX.out
        obtain ⟨c0, c1, c2, c3, c4, c5, c6, c7, c8⟩ := hbx.whC
        have f8 := hbx.free 8
        have B3 := Lib.hid (hbx.set 8 (j : Int))
        have V3 : Hid (Upd [] w5 _) := V.out.setCell (p := ⟨XB, 8, none⟩) (.int .i64 (j : Int)) (.inr HWS.out)
        obtain ⟨j1, j2, j3, j4⟩ := HJ.out j hlt
        have J1 := Lib.hid j1
        have J2 := Lib.hid j2
        clear hbx BX V j1 j2
        go_wp2_with fail
        refine (iSpokeLength_c h l r lo ro rh d o (j : Int) b _).mono ?_
        rintro e w13 ⟨rfl, hu⟩
        have V4 := Lib.hid (V3.out.then0 hu)
        have B4 : Hid (∃ x, Blk w13 XB [h, l, r, lo, ro, rh, d, o, x] 34) := ⟨(j : Int), B3.out.kept0 hu⟩
        rw [J1.out, J2.out]
        clear hu B3 V3 J1 J2 c0 c1 c2 c3 c4 c5 c6 c7 c8 f8 a0
        generalize lenV h l r lo ro rh d o j b = LL at j3 j4 ⊢
        have hx := max_iabs (x := 0) (y := 0) j4
        have hw1 : IntKind.i64.wrap (LL - n) = LL - n := IntWalk.i64_in _ (by omega)
        have hw2 : IntKind.i64.wrap (n - LL) = n - LL := IntWalk.i64_in _ (by omega)
        have hw3 : IntKind.i64.wrap (OL - n) = OL - n := IntWalk.i64_in _ (by omega)
        have hw4 : IntKind.i64.wrap (n - OL) = n - OL := IntWalk.i64_in _ (by omega)
        clear j4
        go_wp2_with fail
        go_roundw
        case rel => exact ⟨j + 1, by omega, by go_num, B4, V4⟩
        case measure => simp [intOf]; omega
      · obtain rfl : j = N := by omega
        clear BX HJ
        go_wp2_with fail
        go_ret
        exact ⟨rfl, U.out.then0 V.out⟩
end Go.Proofs.Ytbjeaadnanimfaa
