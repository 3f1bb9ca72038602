/- The law of the chosen spoke: it is in the stock and near enough; the range has the length. -/
import Derived.Test.YtbjeaadnanimfaaChoose
import Derived.Test.YtbjeaadnanimfaaRange2
import Derived.Test.YtbjeaadnanimfaaDrawM
import Derived.Test.YtbjeaadnanimfaaRowL
import Derived.Deep.CutBlock
namespace Go.Proofs.Ytbjeaadnanimfaa
open Go.RowKit
set_option linter.unusedVariables false
set_option linter.unusedSimpArgs false

theorem inside_c (n lo hi : Int) (w : World) (h1 : lo ≤ n) (h2 : n ≤ hi) : Calls Try.prog 17 #[.int .i64 n, .agg #[.int .i64 lo, .int .i64 hi]] w (RetT w) := by
  have b0 := Blk.new w [lo, hi] 42
  have c0 := b0.cell (k := 0) rfl
  have c1 := b0.cell (k := 1) rfl
  clear b0
  go_enter Try.func17, Try.ntmps17
  go_wp2_with fail
  go_ret
  exact ⟨rfl, (Upd.refl w).alloc _⟩
set_option maxRecDepth 20000 in
set_option maxHeartbeats 12800000 in
theorem FnChosen_walk (a : Option Addr) (c : Nat) (bs : List Int) (w : World) (h : U8At w a bs) : Calls Try.prog 3 #[.slice a bs.length c] w (RetT w) := by
  have HC := Lib.hid h
  clear h
  by_cases hl : bs.length ≤ 4096
  case neg =>
    go_enter Try.func3, Try.ntmps3
    go_wp2_with (go_at_call 6; refine (big_x _ _ _ _ hl).mono ?_; rintro e w' ⟨rfl, rfl⟩)
    go_ret
    exact ⟨rfl, Upd.refl _⟩
  go_enter Try.func3, Try.ntmps3
  go_wp2_with (go_at_call 6; refine (big_y _ _ _ _ hl).mono ?_; rintro e w' ⟨rfl, rfl⟩)
  refine (DrawChooseSpoke_c a c bs _ HC.out hl).mono ?_
  rintro e w2 ⟨p, pc, xs, n, rfl, hi, lxs, hu⟩
  have U := Lib.hid hu
  replace HC : Hid (∀ w', Upd [] w2 w' → U8At w' a bs) := fun w' u => (HC.out.kept0 hu).kept0 u
  have HI1 : Hid (∀ w', Upd [] w2 w' → IntsAt w' p xs) := fun w' u => hi.kept0 u
  have V : Hid (Upd [] w2 w2) := Upd.refl _
  clear hu hi
  go_wp2_with fail
  refine (iChooseSpoke_c p pc xs n _ (HI1.out _ V.out) (by omega)).mono ?_
  rintro e w3 ⟨rfl, hu⟩
  replace V := Lib.hid (V.out.then0 hu)
  clear hu
  go_wp2_with fail
  refine (sChooseSpoke_c p pc xs n _ (HI1.out _ V.out) (by omega)).mono ?_
  rintro e w4 ⟨rfl, hu⟩
  replace V := Lib.hid (V.out.then0 hu)
  clear hu
  have HG1 := Lib.hid (@ch_law xs n)
  generalize choR xs n = C at HG1 ⊢
  generalize choE xs n = E1 at HG1 ⊢
  go_wp2_with fail
  refine (DrawSpokesFor_c a c bs _ (HC.out _ V.out) hl).mono ?_
  rintro e wn ⟨h, l, r, lo, ro, rh, d, o, k, q, qc, ys, rfl, hi, lys, hu⟩
  have HI2 : Hid (∀ w', Upd [] wn w' → IntsAt w' q ys) := fun w' u => hi.kept0 u
  clear hi
  have UB := Lib.hid ((U.out.then0 V.out).then0 hu)
  replace HI1 := Lib.hid (fun w' u => HI1.out w' ((V.out.then0 hu).then0 u))
  replace HC := Lib.hid (fun w' u => HC.out w' ((V.out.then0 hu).then0 u))
  clear hu V U
  have U := UB
  clear UB
  have bX : Blk (wn.alloc (.cells #[.int .i64 h, .int .i64 l, .int .i64 r, .int .i64 lo, .int .i64 ro, .int .i64 rh, .int .i64 d, .int .i64 o, .int .i64 k] 34)) wn.heap.size [h, l, r, lo, ro, rh, d, o, k] 34 := Blk.new wn [h, l, r, lo, ro, rh, d, o, k] _
  have uX : Upd [] wn (wn.alloc (.cells #[.int .i64 h, .int .i64 l, .int .i64 r, .int .i64 lo, .int .i64 ro, .int .i64 rh, .int .i64 d, .int .i64 o, .int .i64 k] 34)) := (Upd.refl wn).alloc _
  have HXA : Hid (∀ w', Upd [] (wn.alloc (.cells #[.int .i64 h, .int .i64 l, .int .i64 r, .int .i64 lo, .int .i64 ro, .int .i64 rh, .int .i64 d, .int .i64 o, .int .i64 k] 34)) w' → WhC w' wn.heap.size h l r lo ro rh d o k) := fun w' u => (bX.kept0 u).whC
  have V : Hid (Upd [] (wn.alloc (.cells #[.int .i64 h, .int .i64 l, .int .i64 r, .int .i64 lo, .int .i64 ro, .int .i64 rh, .int .i64 d, .int .i64 o, .int .i64 k] 34)) (wn.alloc (.cells #[.int .i64 h, .int .i64 l, .int .i64 r, .int .i64 lo, .int .i64 ro, .int .i64 rh, .int .i64 d, .int .i64 o, .int .i64 k] 34))) := Upd.refl _
  replace U := Lib.hid (U.out.then0 uX)
  replace HI1 := Lib.hid (fun w' u => HI1.out w' (uX.then0 u))
  replace HI2 := Lib.hid (fun w' u => HI2.out w' (uX.then0 u))
  replace HC := Lib.hid (fun w' u => HC.out w' (uX.then0 u))
  clear bX uX
  obtain ⟨c0, c1, c2, c3, c4, c5, c6, c7, c8⟩ := HXA.out _ V.out
  go_wp2_with fail
  clear c0 c1 c2 c3 c4 c5 c6 c7 c8
  generalize wn.heap.size = XA at HXA ⊢
  generalize wn.alloc (.cells #[.int .i64 h, .int .i64 l, .int .i64 r, .int .i64 lo, .int .i64 ro, .int .i64 rh, .int .i64 d, .int .i64 o, .int .i64 k] 34) = w5 at HXA V U HI1 HI2 HC ⊢
  refine (iSpokesFor_c h l r lo ro rh d o k q qc ys _ (HI2.out _ V.out) (by omega)).mono ?_
  rintro e w6 ⟨rfl, hu⟩
  replace V := Lib.hid (V.out.then0 hu)
  clear hu
  obtain ⟨c0, c1, c2, c3, c4, c5, c6, c7, c8⟩ := HXA.out _ V.out
  go_wp2_with fail
  clear c0 c1 c2 c3 c4 c5 c6 c7 c8
  refine (sSpokesFor_c h l r lo ro rh d o k q qc ys _ (HI2.out _ V.out) (by omega)).mono ?_
  rintro e w7 ⟨rfl, hu⟩
  replace V := Lib.hid (V.out.then0 hu)
  clear hu
  have HG2 := Lib.hid (@sf_law h l r lo ro rh d o k ys)
  generalize sfA h l r lo ro rh d o k ys false = A at HG2 ⊢
  generalize sfA h l r lo ro rh d o k ys true = A2
  generalize sfE h l r lo ro rh d o k ys = E2 at HG2 ⊢
  go_wp2_with fail
  refine (DrawLengthRange_c a c bs _ (HC.out _ V.out) hl).mono ?_
  rintro e wn ⟨h2, l2, r2, lo2, ro2, rh2, d2, o2, k2, b, tol, rfl, hu⟩
  clear HC hl
  have UB := Lib.hid ((U.out.then0 V.out).then0 hu)
  replace HI1 := Lib.hid (fun w' u => HI1.out w' ((V.out.then0 hu).then0 u))
  replace HI2 := Lib.hid (fun w' u => HI2.out w' ((V.out.then0 hu).then0 u))
  replace HXA := Lib.hid (fun w' u => HXA.out w' ((V.out.then0 hu).then0 u))
  clear hu V U
  have U := UB
  clear UB
  have bX : Blk (wn.alloc (.cells #[.int .i64 h2, .int .i64 l2, .int .i64 r2, .int .i64 lo2, .int .i64 ro2, .int .i64 rh2, .int .i64 d2, .int .i64 o2, .int .i64 k2] 34)) wn.heap.size [h2, l2, r2, lo2, ro2, rh2, d2, o2, k2] 34 := Blk.new wn [h2, l2, r2, lo2, ro2, rh2, d2, o2, k2] _
  have uX : Upd [] wn (wn.alloc (.cells #[.int .i64 h2, .int .i64 l2, .int .i64 r2, .int .i64 lo2, .int .i64 ro2, .int .i64 rh2, .int .i64 d2, .int .i64 o2, .int .i64 k2] 34)) := (Upd.refl wn).alloc _
  have HXB : Hid (∀ w', Upd [] (wn.alloc (.cells #[.int .i64 h2, .int .i64 l2, .int .i64 r2, .int .i64 lo2, .int .i64 ro2, .int .i64 rh2, .int .i64 d2, .int .i64 o2, .int .i64 k2] 34)) w' → WhC w' wn.heap.size h2 l2 r2 lo2 ro2 rh2 d2 o2 k2) := fun w' u => (bX.kept0 u).whC
  have V : Hid (Upd [] (wn.alloc (.cells #[.int .i64 h2, .int .i64 l2, .int .i64 r2, .int .i64 lo2, .int .i64 ro2, .int .i64 rh2, .int .i64 d2, .int .i64 o2, .int .i64 k2] 34)) (wn.alloc (.cells #[.int .i64 h2, .int .i64 l2, .int .i64 r2, .int .i64 lo2, .int .i64 ro2, .int .i64 rh2, .int .i64 d2, .int .i64 o2, .int .i64 k2] 34))) := Upd.refl _
  replace U := Lib.hid (U.out.then0 uX)
  replace HI1 := Lib.hid (fun w' u => HI1.out w' (uX.then0 u))
  replace HI2 := Lib.hid (fun w' u => HI2.out w' (uX.then0 u))
  replace HXA := Lib.hid (fun w' u => HXA.out w' (uX.then0 u))
  clear bX uX
  obtain ⟨c0, c1, c2, c3, c4, c5, c6, c7, c8⟩ := HXB.out _ V.out
  go_wp2_with fail
  clear c0 c1 c2 c3 c4 c5 c6 c7 c8
  generalize wn.heap.size = XB at HXB ⊢
  generalize wn.alloc (.cells #[.int .i64 h2, .int .i64 l2, .int .i64 r2, .int .i64 lo2, .int .i64 ro2, .int .i64 rh2, .int .i64 d2, .int .i64 o2, .int .i64 k2] 34) = w8 at HXB V U HI1 HI2 HXA ⊢
  have HG3 := Lib.hid (@lr_law h2 l2 r2 lo2 ro2 rh2 d2 o2 k2 tol b)
  obtain ⟨LO, hLO⟩ : ∃ x, lrLo h2 l2 r2 lo2 ro2 rh2 d2 o2 k2 tol b = x := ⟨_, rfl⟩
  obtain ⟨HH, hHH⟩ : ∃ x, lrHi h2 l2 r2 lo2 ro2 rh2 d2 o2 k2 tol b = x := ⟨_, rfl⟩
  obtain ⟨E3, hE3⟩ : ∃ x, lrE h2 l2 r2 lo2 ro2 rh2 d2 o2 k2 tol = x := ⟨_, rfl⟩
  rw [hLO, hHH, hE3] at HG3
  have KLO := Lib.hid hLO
  have KHH := Lib.hid hHH
  have KE3 := Lib.hid hE3
  clear hLO hHH hE3
  refine (iLengthRange_c h2 l2 r2 lo2 ro2 rh2 d2 o2 k2 b tol _).mono ?_
  rintro e wn ⟨rfl, hu⟩
  rw [KLO.out, KHH.out, KE3.out]
  replace V := Lib.hid (V.out.then0 hu)
  clear hu
  have bX : Blk (wn.alloc (.cells #[.int .i64 LO, .int .i64 HH] 42)) wn.heap.size [LO, HH] 42 := Blk.new wn [LO, HH] _
  have uX : Upd [] wn (wn.alloc (.cells #[.int .i64 LO, .int .i64 HH] 42)) := (Upd.refl wn).alloc _
  have HR1 : Hid (∀ w', Upd [] (wn.alloc (.cells #[.int .i64 LO, .int .i64 HH] 42)) w' → w'.cell? ⟨wn.heap.size, 0, none⟩ = some (.int .i64 LO) ∧ w'.cell? ⟨wn.heap.size, 1, none⟩ = some (.int .i64 HH)) := fun w' u => ⟨(bX.kept0 u).cell rfl, (bX.kept0 u).cell rfl⟩
  have UB := Lib.hid (((U.out.then0 V.out)).then0 uX)
  replace HI1 := Lib.hid (fun w' u => HI1.out w' ((V.out.then0 uX).then0 u))
  replace HI2 := Lib.hid (fun w' u => HI2.out w' ((V.out.then0 uX).then0 u))
  replace HXA := Lib.hid (fun w' u => HXA.out w' ((V.out.then0 uX).then0 u))
  replace HXB := Lib.hid (fun w' u => HXB.out w' ((V.out.then0 uX).then0 u))
  clear bX uX V U
  have U := UB
  clear UB
  have V : Hid (Upd [] (wn.alloc (.cells #[.int .i64 LO, .int .i64 HH] 42)) (wn.alloc (.cells #[.int .i64 LO, .int .i64 HH] 42))) := Upd.refl _
  obtain ⟨c0, c1, c2, c3, c4, c5, c6, c7, c8⟩ := HXB.out _ V.out
  go_wp2_with fail
  clear c0 c1 c2 c3 c4 c5 c6 c7 c8
  generalize wn.heap.size = R1 at HR1 ⊢
  generalize wn.alloc (.cells #[.int .i64 LO, .int .i64 HH] 42) = w9 at HR1 V U HI1 HI2 HXA HXB ⊢
  refine (sLengthRange_c h2 l2 r2 lo2 ro2 rh2 d2 o2 k2 b tol _).mono ?_
  rintro e wn ⟨rfl, hu⟩
  rw [KLO.out, KHH.out, KE3.out]
  replace V := Lib.hid (V.out.then0 hu)
  clear hu
  have bX : Blk (wn.alloc (.cells #[.int .i64 LO, .int .i64 HH] 42)) wn.heap.size [LO, HH] 42 := Blk.new wn [LO, HH] _
  have uX : Upd [] wn (wn.alloc (.cells #[.int .i64 LO, .int .i64 HH] 42)) := (Upd.refl wn).alloc _
  have HR2 : Hid (∀ w', Upd [] (wn.alloc (.cells #[.int .i64 LO, .int .i64 HH] 42)) w' → w'.cell? ⟨wn.heap.size, 0, none⟩ = some (.int .i64 LO) ∧ w'.cell? ⟨wn.heap.size, 1, none⟩ = some (.int .i64 HH)) := fun w' u => ⟨(bX.kept0 u).cell rfl, (bX.kept0 u).cell rfl⟩
  have UB := Lib.hid (((U.out.then0 V.out)).then0 uX)
  replace HI1 := Lib.hid (fun w' u => HI1.out w' ((V.out.then0 uX).then0 u))
  replace HI2 := Lib.hid (fun w' u => HI2.out w' ((V.out.then0 uX).then0 u))
  replace HXA := Lib.hid (fun w' u => HXA.out w' ((V.out.then0 uX).then0 u))
  replace HXB := Lib.hid (fun w' u => HXB.out w' ((V.out.then0 uX).then0 u))
  replace HR1 := Lib.hid (fun w' u => HR1.out w' ((V.out.then0 uX).then0 u))
  clear bX uX V U
  have U := UB
  clear UB
  have V : Hid (Upd [] (wn.alloc (.cells #[.int .i64 LO, .int .i64 HH] 42)) (wn.alloc (.cells #[.int .i64 LO, .int .i64 HH] 42))) := Upd.refl _
  go_upto_region 12 with fail
  generalize wn.heap.size = R2 at HR2 ⊢
  generalize wn.alloc (.cells #[.int .i64 LO, .int .i64 HH] 42) = w10 at HR2 V U HI1 HI2 HXA HXB HR1 ⊢
  clear KLO KHH KE3
  obtain ⟨y0, y1⟩ := HR1.out _ V.out
  obtain ⟨z0, z1⟩ := HR2.out _ V.out
  go_upto_if 123 with fail
  clear z0 z1 y0 y1 HR2
  go_cut [] from 122 (fun wx => Hid (Upd [] w10 wx))
  case first =>
    clear HG1 HG2 HI1 HI2 HXA
    by_cases e3 : E3 = 0
    · subst e3
      obtain ⟨g1, g2, g3⟩ := HG3.out rfl
      have G1 := Lib.hid g1
      clear HG3 g1
      obtain ⟨c0, c1, c2, c3, c4, c5, c6, c7, c8⟩ := HXB.out _ V.out
      go_wp2_with fail
      clear c0 c1 c2 c3 c4 c5 c6 c7 c8
      refine (iSpokeLength_c h2 l2 r2 lo2 ro2 rh2 d2 o2 k2 b _).mono ?_
      rintro e w11 ⟨rfl, hu⟩
      replace V := Lib.hid (V.out.then0 hu)
      rw [G1.out]
      clear hu HXB
      generalize lenR h2 l2 r2 lo2 ro2 rh2 d2 o2 k2 b = OW at g2 g3 ⊢
      obtain ⟨y0, y1⟩ := HR1.out _ V.out
      go_wp2_with fail
      clear y0 y1 HR1
      refine (inside_c OW LO HH _ g2 g3).mono ?_
      rintro e w12 ⟨rfl, hu⟩
      replace V := Lib.hid (V.out.then0 hu)
      clear hu
      go_wp2_with fail
      go_meet
      case rel => exact V
    · clear HG3 HXB HR1
      go_wp2_with fail
      go_meet
      case rel => exact V
  case rest =>
    clear HG3 HXB HR1 V
    have V := hcut
    clear hcut
    go_upto_if 139 with fail
    obtain ⟨w13, ew13⟩ : ∃ W, W = wc := ⟨_, rfl⟩
    subst ew13
    have V0 : Hid (Upd [] w13 w13) := Upd.refl _
    go_cut [] from 138 (fun wx => Hid (Upd [] w10 wx))
    case first =>
      clear HG1 HI1 V0
      by_cases e2 : E2 = 0
      · subst e2
        obtain ⟨g1, g2, g3⟩ := HG2.out rfl
        have G1 := Lib.hid g1
        have G2 := Lib.hid g2
        have G3 := Lib.hid g3
        clear HG2 g1 g2 g3
        obtain ⟨c0, c1, c2, c3, c4, c5, c6, c7, c8⟩ := HXA.out _ V.out
        go_wp2_with fail
        clear c0 c1 c2 c3 c4 c5 c6 c7 c8
        refine (iSpokeLength_c h l r lo ro rh d o k false _).mono ?_
        rintro e w14 ⟨rfl, hu⟩
        replace V := Lib.hid (V.out.then0 hu)
        rw [G1.out]
        clear hu HXA G1
        generalize lenR h l r lo ro rh d o k false = OW at G2 G3 ⊢
        go_wp2_with fail
        refine (iChooseSpoke_c q qc ys OW _ (HI2.out _ V.out) (by omega)).mono ?_
        rintro e w15 ⟨rfl, hu⟩
        replace V := Lib.hid (V.out.then0 hu)
        rw [G2.out, G3.out]
        clear hu G2 G3 HI2
        go_wp2_with fail
        go_meet
        case rel => exact V
      · clear HG2 HXA HI2
        go_wp2_with fail
        go_meet
        case rel => exact V
    case rest =>
      clear HG2 HXA HI2 V V0
      have V := hcut
      clear hcut
      by_cases e1 : E1 = 0
      case neg =>
        clear HG1 HI1
        go_wp2_with fail
        go_ret
        exact ⟨rfl, U.out.then0 V.out⟩
      case pos =>
      subst e1
      have G := Lib.hid (HG1.out rfl)
      clear HG1
      have hlb := G.out.lb
      have hwp : IntKind.i64.wrap (n + 10) = n + 10 := IntWalk.i64_in _ (by omega)
      have hwm : IntKind.i64.wrap (n - 20) = n - 20 := IntWalk.i64_in _ (by omega)
      go_wp2_with fail
      go_loopw [30] (fun i wr => ∃ j : Nat, j ≤ xs.length ∧ i = .int .i64 j ∧ Hid (Upd [] w10 wr)) (fun i _ => xs.length - (intOf i).toNat)
      case atStart => exact ⟨0, by omega, rfl, V⟩
      case round =>
        clear V
        obtain ⟨j, hj, rfl, V⟩ := hrel
        by_cases hlt : j < xs.length
        · obtain ⟨ab, ao, x, rfl, hc, hx⟩ := (HI1.out _ V.out).get hlt
          have i1 : (0 : Int) ≤ (j : Int) := by omega
          have i2 : (j : Int) < (xs.length : Int) := by omega
          by_cases hcx : C < x
          · have hx2 : ¬ x ≤ n + 10 := G.out.best j x hx.out hcx
            clear hx
            go_wp2_with fail
            go_roundw
            case rel => exact ⟨j + 1, by omega, by go_num, V⟩
            case measure => simp [intOf]; omega
          · clear hx
            go_wp2_with fail
            go_roundw
            case rel => exact ⟨j + 1, by omega, by go_num, V⟩
            case measure => simp [intOf]; omega
        · obtain rfl : j = xs.length := by omega
          have hhi := G.out.hi
          have hlo := G.out.lo
          have HH2 := Lib.hid G.out.has
          clear G
          go_wp2_with (go_at_call 18; refine (hasInt_c p pc xs C _ (HI1.out _ V.out) (by omega)).mono ?_; rintro e w' ⟨rfl, rfl⟩; rw [HH2.out])
          go_ret
          exact ⟨rfl, U.out.then0 V.out⟩
end Go.Proofs.Ytbjeaadnanimfaa
