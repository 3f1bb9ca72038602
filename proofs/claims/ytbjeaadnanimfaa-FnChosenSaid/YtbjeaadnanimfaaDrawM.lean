/- Chapter 5: draws of wheels with stocks and tolerances. -/
import Derived.Test.YtbjeaadnanimfaaDrawL
import Derived.Lib.MinMax
namespace Go.Proofs.Ytbjeaadnanimfaa
open Go.RowKit Go.Sort
set_option linter.unusedVariables false
set_option linter.unusedSimpArgs false

set_option maxRecDepth 20000 in
set_option maxHeartbeats 3200000 in
theorem DrawSpokesFor_c (a : Option Addr) (c : Nat) (bs : List Int) (w : World) (hc : U8At w a bs) (hl : bs.length ≤ 4096) : Calls Try.prog 10 #[.slice a bs.length c] w (WhS w) := by
  have u1 : Upd [] w (w.alloc (.cells #[.int .i64 0, .int .i64 0, .int .i64 0, .int .i64 0, .int .i64 0, .int .i64 0, .int .i64 0, .int .i64 0, .int .i64 0] 34)) := (Upd.refl w).alloc _
  have b1 : Blk (w.alloc (.cells #[.int .i64 0, .int .i64 0, .int .i64 0, .int .i64 0, .int .i64 0, .int .i64 0, .int .i64 0, .int .i64 0, .int .i64 0] 34)) w.heap.size [0, 0, 0, 0, 0, 0, 0, 0, 0] 34 := Blk.new w [0, 0, 0, 0, 0, 0, 0, 0, 0] _
  obtain ⟨B, hB⟩ : ∃ B, w.heap.size = B := ⟨_, rfl⟩
  have s1 : (w.alloc (.cells #[.int .i64 0, .int .i64 0, .int .i64 0, .int .i64 0, .int .i64 0, .int .i64 0, .int .i64 0, .int .i64 0, .int .i64 0] 34)).heap.size = B + 1 := by simp [hB]
  rw [hB] at b1
  have HB := Lib.hid hB
  have HSz := Lib.hid s1
  have RB := Lib.hid b1
  have HC := Lib.hid (hc.kept0 u1)
  have UF := Lib.hid u1
  clear hc u1 b1 s1
  go_enter Try.func10, Try.ntmps10
  go_wp2_with fail
  try rw [hB]
  clear hB
  refine (l01From_c a c bs _ HC.out hl).mono ?_
  rintro e w1 ⟨g, rfl, hg, hd, hu⟩
  have HBg : Hid (B < g) := by have := HSz.out; show _ < _; omega
  have D := Lib.hid hd
  replace RB := Lib.hid (RB.out.kept0 hu)
  replace UF := Lib.hid (UF.out.then0 hu)
  have U : Hid (Upd [g] w1 w1) := (Upd.refl w1).mono (by simp)
  have HgB : Hid (g < w1.heap.size) := hd.lt
  replace HC := Lib.hid (HC.out.kept0 hu)
  clear hd hu hg HSz
  go_wp2_with fail
  refine (DrawSpokeCounts_c a c bs _ HC.out hl).mono ?_
  rintro e wn ⟨h, l, r, lo, ro, rh, d, o, k, rfl, hu⟩
  replace RB := Lib.hid (RB.out.kept0 hu)
  replace D := Lib.hid (D.out.kept0 hu)
  replace U := Lib.hid (U.out.then0 hu)
  clear hu HC
  have bX : Blk (wn.alloc (.cells #[.int .i64 h, .int .i64 l, .int .i64 r, .int .i64 lo, .int .i64 ro, .int .i64 rh, .int .i64 d, .int .i64 o, .int .i64 k] 34)) wn.heap.size [h, l, r, lo, ro, rh, d, o, k] 34 := Blk.new wn [h, l, r, lo, ro, rh, d, o, k] _
  have uX : Upd [] wn (wn.alloc (.cells #[.int .i64 h, .int .i64 l, .int .i64 r, .int .i64 lo, .int .i64 ro, .int .i64 rh, .int .i64 d, .int .i64 o, .int .i64 k] 34)) := (Upd.refl wn).alloc _
  have hlt := RB.out.lt
  have hgx := D.out.lt
  have hx1 := U.out.size
  replace RB := Lib.hid (RB.out.kept0 uX)
  replace D := Lib.hid (D.out.kept0 uX)
  replace U := Lib.hid (U.out.then0 uX)
  clear uX
  go_wp2_with fail
  generalize wn.alloc (.cells #[.int .i64 h, .int .i64 l, .int .i64 r, .int .i64 lo, .int .i64 ro, .int .i64 rh, .int .i64 d, .int .i64 o, .int .i64 k] 34) = w2 at bX RB D U ⊢
  generalize wn.heap.size = x at bX hlt hgx hx1 ⊢
  have X := Lib.hid bX
  have HgX := Lib.hid hgx
  have HBx := Lib.hid hlt
  have HX1 := Lib.hid hx1
  clear bX hgx hlt hx1
  have hlt1 := D.out.lt
  have hlt2 := RB.out.lt
  have hlt3 := X.out.lt
  have HLT : Hid (g < w2.heap.size ∧ B < w2.heap.size ∧ x < w2.heap.size) := ⟨hlt1, hlt2, hlt3⟩
  have HgB2 : Hid (∀ k, k ∈ [g] → k < w2.heap.size) := fun k hk => by rw [List.mem_singleton.1 hk]; exact hlt1
  clear hlt1 hlt2 hlt3
  have UW := U
  replace U : Hid (Upd [g] w2 w2) := (Upd.refl w2).mono (by simp)
  refine (l05DrawStock_c g a c bs _ D.out).mono ?_
  rintro e w3 ⟨v, xs, rfl, ho, lxs, hd, hu⟩
  replace RB := Lib.hid (RB.out.kept hu (by simp; have := HBg.out; omega))
  replace X := Lib.hid (X.out.kept hu (by simp; have := HgX.out; omega))
  replace D := Lib.hid hd
  replace U := Lib.hid (U.out.then1 hu)
  have O := Lib.hid ho
  obtain ⟨p, cc, ev⟩ := ho.form
  subst ev
  clear ho hd hu
  obtain ⟨c0, c1, c2, c3, c4, c5, c6, c7, c8⟩ := X.out.whC
  go_wp2_with fail
  clear c0 c1 c2 c3 c4 c5 c6 c7 c8
  refine (sIsWheel_c h l r lo ro rh d o k _).mono ?_
  rintro e w4 ⟨rfl, hu⟩
  replace RB := Lib.hid (RB.out.kept0 hu)
  replace X := Lib.hid (X.out.kept0 hu)
  replace D := Lib.hid (D.out.kept0 hu)
  replace U := Lib.hid (U.out.then0 hu)
  replace O := Lib.hid (O.out.kept0 hu)
  clear hu
  cases q : whB h l r lo ro rh d o k
  · clear q
    go_upto_region 10 with fail
    have RB4 := RB
    have U3 := Lib.hid (UW.out.then1 U.out)
    clear D
    have m0 := RB4.out.cell (k := 0) rfl
    have f0 := RB4.out.free 0
    have m1 := RB4.out.cell (k := 1) rfl
    have f1 := RB4.out.free 1
    have m2 := RB4.out.cell (k := 2) rfl
    have f2 := RB4.out.free 2
    have m3 := RB4.out.cell (k := 3) rfl
    have f3 := RB4.out.free 3
    have m4 := RB4.out.cell (k := 4) rfl
    have f4 := RB4.out.free 4
    have m5 := RB4.out.cell (k := 5) rfl
    have f5 := RB4.out.free 5
    have m6 := RB4.out.cell (k := 6) rfl
    have f6 := RB4.out.free 6
    have m7 := RB4.out.cell (k := 7) rfl
    have f7 := RB4.out.free 7
    have m8 := RB4.out.cell (k := 8) rfl
    have f8 := RB4.out.free 8
    obtain ⟨c0, c1, c2, c3, c4, c5, c6, c7, c8⟩ := X.out.whC
    obtain ⟨w13, ew⟩ : ∃ x : World, x = w4 := ⟨_, rfl⟩
    subst ew
    have b5 := Lib.hid (((((((((RB4.out.set 0 h).set 1 l).set 2 r).set 3 lo).set 4 ro).set 5 rh).set 6 d).set 7 o).set 8 k)
    have u5 : Upd [B] w13 _ := ((Upd.refl w13).mono (gs := []) (hs := [B]) (by simp)).chain9 (B := B) (v0 := .int .i64 h) (v1 := .int .i64 l) (v2 := .int .i64 r) (v3 := .int .i64 lo) (v4 := .int .i64 ro) (v5 := .int .i64 rh) (v6 := .int .i64 d) (v7 := .int .i64 o) (v8 := .int .i64 k) (.inl (by simp))
    have HU5 : Hid (Upd [] w _) := (UF.out.after0 U3.out (fun k hk => by rw [List.mem_singleton.1 hk, HB.out]; have := HBg.out; omega)).after0 u5 (fun k hk => by rw [List.mem_singleton.1 hk, HB.out]; exact Nat.le_refl _)
    have O5 := Lib.hid (O.out.kept u5 (fun k hk => by rw [List.mem_singleton.1 hk]; exact HLT.out.2.1))
    clear u5
    have hr0 := b5.out.cell (k := 0) rfl
    have hr1 := b5.out.cell (k := 1) rfl
    have hr2 := b5.out.cell (k := 2) rfl
    have hr3 := b5.out.cell (k := 3) rfl
    have hr4 := b5.out.cell (k := 4) rfl
    have hr5 := b5.out.cell (k := 5) rfl
    have hr6 := b5.out.cell (k := 6) rfl
    have hr7 := b5.out.cell (k := 7) rfl
    have hr8 := b5.out.cell (k := 8) rfl
    go_wp2_with fail
    refine bodyPost_ret (v := .tuple #[.agg #[.int .i64 h, .int .i64 l, .int .i64 r, .int .i64 lo, .int .i64 ro, .int .i64 rh, .int .i64 d, .int .i64 o, .int .i64 k], .slice p xs.length cc]) ?_ rfl ?_
    · simp [results, Try.f10, asAddr, loadVar, loadCells, loadCellsFrom, Addr.add, hr0, hr1, hr2, hr3, hr4, hr5, hr6, hr7, hr8]
    · exact ⟨_, _, _, _, _, _, _, _, _, p, cc, xs, rfl, O5.out.ints, by omega, HU5.out⟩
  · have HQ := Lib.hid q
    clear q
    go_wp2_with fail
    refine (l01Next_c g a c bs _ _ D.out).mono ?_
    rintro e w5 ⟨t, rfl, ht, hd, hu⟩
    replace RB := Lib.hid (RB.out.kept hu (by simp; have := HBg.out; omega))
    replace X := Lib.hid (X.out.kept hu (by simp; have := HgX.out; omega))
    replace D := Lib.hid hd
    replace O := Lib.hid (O.out.kept hu HgB2.out)
    replace U := Lib.hid (U.out.then1 hu)
    clear hd hu ht
    by_cases ht : 0 < t
    case neg =>
      go_upto_region 10 with fail
      have RB4 := RB
      have U3 := Lib.hid (UW.out.then1 U.out)
      clear D
      have m0 := RB4.out.cell (k := 0) rfl
      have f0 := RB4.out.free 0
      have m1 := RB4.out.cell (k := 1) rfl
      have f1 := RB4.out.free 1
      have m2 := RB4.out.cell (k := 2) rfl
      have f2 := RB4.out.free 2
      have m3 := RB4.out.cell (k := 3) rfl
      have f3 := RB4.out.free 3
      have m4 := RB4.out.cell (k := 4) rfl
      have f4 := RB4.out.free 4
      have m5 := RB4.out.cell (k := 5) rfl
      have f5 := RB4.out.free 5
      have m6 := RB4.out.cell (k := 6) rfl
      have f6 := RB4.out.free 6
      have m7 := RB4.out.cell (k := 7) rfl
      have f7 := RB4.out.free 7
      have m8 := RB4.out.cell (k := 8) rfl
      have f8 := RB4.out.free 8
      obtain ⟨c0, c1, c2, c3, c4, c5, c6, c7, c8⟩ := X.out.whC
      obtain ⟨w13, ew⟩ : ∃ x : World, x = w5 := ⟨_, rfl⟩
      subst ew
      have b5 := Lib.hid (((((((((RB4.out.set 0 h).set 1 l).set 2 r).set 3 lo).set 4 ro).set 5 rh).set 6 d).set 7 o).set 8 k)
      have u5 : Upd [B] w13 _ := ((Upd.refl w13).mono (gs := []) (hs := [B]) (by simp)).chain9 (B := B) (v0 := .int .i64 h) (v1 := .int .i64 l) (v2 := .int .i64 r) (v3 := .int .i64 lo) (v4 := .int .i64 ro) (v5 := .int .i64 rh) (v6 := .int .i64 d) (v7 := .int .i64 o) (v8 := .int .i64 k) (.inl (by simp))
      have HU5 : Hid (Upd [] w _) := (UF.out.after0 U3.out (fun k hk => by rw [List.mem_singleton.1 hk, HB.out]; have := HBg.out; omega)).after0 u5 (fun k hk => by rw [List.mem_singleton.1 hk, HB.out]; exact Nat.le_refl _)
      have O5 := Lib.hid (O.out.kept u5 (fun k hk => by rw [List.mem_singleton.1 hk]; exact HLT.out.2.1))
      clear u5
      have hr0 := b5.out.cell (k := 0) rfl
      have hr1 := b5.out.cell (k := 1) rfl
      have hr2 := b5.out.cell (k := 2) rfl
      have hr3 := b5.out.cell (k := 3) rfl
      have hr4 := b5.out.cell (k := 4) rfl
      have hr5 := b5.out.cell (k := 5) rfl
      have hr6 := b5.out.cell (k := 6) rfl
      have hr7 := b5.out.cell (k := 7) rfl
      have hr8 := b5.out.cell (k := 8) rfl
      go_wp2_with fail
      refine bodyPost_ret (v := .tuple #[.agg #[.int .i64 h, .int .i64 l, .int .i64 r, .int .i64 lo, .int .i64 ro, .int .i64 rh, .int .i64 d, .int .i64 o, .int .i64 k], .slice p xs.length cc]) ?_ rfl ?_
      · simp [results, Try.f10, asAddr, loadVar, loadCells, loadCellsFrom, Addr.add, hr0, hr1, hr2, hr3, hr4, hr5, hr6, hr7, hr8]
      · exact ⟨_, _, _, _, _, _, _, _, _, p, cc, xs, rfl, O5.out.ints, by omega, HU5.out⟩
    case pos =>
      clear O lxs
      have ul : Upd [] w5 (w5.alloc (.cells #[] 2)) := (Upd.refl w5).alloc _
      have O : Hid (OwnI (w5.alloc (.cells #[] 2)) w2.heap.size (.slice (some ⟨w5.heap.size, 0, none⟩) 0 0) []) := lit_own U.out.size [] (by simp)
      replace RB := Lib.hid (RB.out.kept0 ul)
      replace X := Lib.hid (X.out.kept0 ul)
      replace D := Lib.hid (D.out.kept0 ul)
      replace U := Lib.hid (U.out.then0 ul)
      clear ul
      obtain ⟨c0, c1, c2, c3, c4, c5, c6, c7, c8⟩ := X.out.whC
      go_wp2_with fail
      clear c0 c1 c2 c3 c4 c5 c6 c7 c8
      generalize w5.heap.size = z0 at O ⊢
      refine (sLen_c h l r lo ro rh d o k false _ HQ.out).mono ?_
      rintro e w6 ⟨rfl, hu⟩
      replace RB := Lib.hid (RB.out.kept0 hu)
      replace X := Lib.hid (X.out.kept0 hu)
      replace D := Lib.hid (D.out.kept0 hu)
      replace U := Lib.hid (U.out.then0 hu)
      have O2 : Hid (∃ ys, OwnI w6 w2.heap.size (.slice (some ⟨z0, 0, none⟩) 0 0) ys ∧ ys.length = 0) := ⟨[], O.out.kept0 hu, rfl⟩
      clear hu O
      generalize lenV h l r lo ro rh d o k false = n0
      go_wp2_with fail
      go_loopw [6, 7] (fun v i wr => ∃ (m : Nat) (p : Option Addr) (cc : Nat) (n : Int), m ≤ 14 ∧ v = .slice p m cc ∧ i = .int .i64 n ∧ Hid (∃ ys, OwnI wr w2.heap.size (.slice p m cc) ys ∧ ys.length = m) ∧ Hid (Blk wr B [0, 0, 0, 0, 0, 0, 0, 0, 0] 34) ∧ Hid (Blk wr x [h, l, r, lo, ro, rh, d, o, k] 34) ∧ Hid (DC wr g a c bs) ∧ Hid (Upd [g] w2 wr)) (fun v _ _ => 14 - lenOf v)
      case atStart => exact ⟨0, _, 0, _, by omega, rfl, rfl, O2, RB, X, D, U⟩
      case round =>
        clear O2 RB X D U
        obtain ⟨m, p, cc, n, hm, rfl, rfl, O2, RB, X, D, U⟩ := hrel
        obtain ⟨xs, ho, hxl⟩ := O2.out
        have O := Lib.hid ho
        clear ho O2
        by_cases hlt : m < 14
        · go_wp2_with (at_builtin; refine wpList_appB rfl _ _ rfl _ _ _ rfl rfl O.out U.out.size (by omega) ?_; intro v' w9 z1 z2; have Z1 := Lib.hid z1; have hno : ∀ k, k ∈ (Value.slice p m cc).ownBlock.toList → w2.heap.size ≤ k := fun k hk => O.out.low k (Option.mem_toList.1 hk); have DZ := Lib.hid (D.out.kept z2 (fun k hk => by have := hno k hk; have := HLT.out.1; omega)); have UZ := Lib.hid (U.out.afterB z2 hno); have XZ := Lib.hid (X.out.kept z2 (fun hm => by have := hno _ hm; have := HLT.out.2.2; omega)); have RZ := Lib.hid (RB.out.kept z2 (fun hm => by have := hno _ hm; have := HLT.out.2.1; omega)); clear z1 z2 hno)
          clear O RB X D U
          obtain ⟨p2, c2, ev⟩ := Z1.out.form
          have hl2 : (xs ++ [max n (m : Int)]).length = m + 1 := by simp; omega
          rw [hl2] at ev
          subst ev
          have HZ : Hid (∃ ys, OwnI w9 w2.heap.size (.slice p2 (m + 1) c2) ys ∧ ys.length = m + 1) := ⟨_, Z1.out, hl2⟩
          clear Z1 hl2
          refine (l01Next_c g a c bs _ _ DZ.out).mono ?_
          rintro e w10 ⟨y, rfl, hy, hd, hu⟩
          have HZ2 : Hid (∃ ys, OwnI w10 w2.heap.size (.slice p2 (m + 1) c2) ys ∧ ys.length = m + 1) := by obtain ⟨ys, a1, a2⟩ := HZ.out; exact ⟨ys, a1.kept hu HgB2.out, a2⟩
          replace RZ := Lib.hid (RZ.out.kept hu (by simp; have := HBg.out; omega))
          replace XZ := Lib.hid (XZ.out.kept hu (by simp; have := HgX.out; omega))
          replace DZ := Lib.hid hd
          replace UZ := Lib.hid (UZ.out.then1 hu)
          clear hd hu hy HZ
          go_wp2_with fail
          go_roundw
          case rel => exact ⟨m + 1, p2, c2, _, by omega, rfl, rfl, HZ2, RZ, XZ, DZ, UZ⟩
          case measure => simp [lenOf]; omega
        · subst hxl
          go_upto_region 10 with fail
          obtain ⟨w11, ew11⟩ : ∃ x : World, x = wr := ⟨_, rfl⟩
          subst ew11
          have lxs : xs.length ≤ 40 := by omega
          have RB4 := RB
          have U3 := Lib.hid (UW.out.then1 U.out)
          clear D
          have m0 := RB4.out.cell (k := 0) rfl
          have f0 := RB4.out.free 0
          have m1 := RB4.out.cell (k := 1) rfl
          have f1 := RB4.out.free 1
          have m2 := RB4.out.cell (k := 2) rfl
          have f2 := RB4.out.free 2
          have m3 := RB4.out.cell (k := 3) rfl
          have f3 := RB4.out.free 3
          have m4 := RB4.out.cell (k := 4) rfl
          have f4 := RB4.out.free 4
          have m5 := RB4.out.cell (k := 5) rfl
          have f5 := RB4.out.free 5
          have m6 := RB4.out.cell (k := 6) rfl
          have f6 := RB4.out.free 6
          have m7 := RB4.out.cell (k := 7) rfl
          have f7 := RB4.out.free 7
          have m8 := RB4.out.cell (k := 8) rfl
          have f8 := RB4.out.free 8
          obtain ⟨c0, c1, c2, c3, c4, c5, c6, c7, c8⟩ := X.out.whC
          obtain ⟨w13, ew⟩ : ∃ x : World, x = w11 := ⟨_, rfl⟩
          subst ew
          have b5 := Lib.hid (((((((((RB4.out.set 0 h).set 1 l).set 2 r).set 3 lo).set 4 ro).set 5 rh).set 6 d).set 7 o).set 8 k)
          have u5 : Upd [B] w13 _ := ((Upd.refl w13).mono (gs := []) (hs := [B]) (by simp)).chain9 (B := B) (v0 := .int .i64 h) (v1 := .int .i64 l) (v2 := .int .i64 r) (v3 := .int .i64 lo) (v4 := .int .i64 ro) (v5 := .int .i64 rh) (v6 := .int .i64 d) (v7 := .int .i64 o) (v8 := .int .i64 k) (.inl (by simp))
          have HU5 : Hid (Upd [] w _) := (UF.out.after0 U3.out (fun k hk => by rw [List.mem_singleton.1 hk, HB.out]; have := HBg.out; omega)).after0 u5 (fun k hk => by rw [List.mem_singleton.1 hk, HB.out]; exact Nat.le_refl _)
          have O5 := Lib.hid (O.out.kept u5 (fun k hk => by rw [List.mem_singleton.1 hk]; exact HLT.out.2.1))
          clear u5
          have hr0 := b5.out.cell (k := 0) rfl
          have hr1 := b5.out.cell (k := 1) rfl
          have hr2 := b5.out.cell (k := 2) rfl
          have hr3 := b5.out.cell (k := 3) rfl
          have hr4 := b5.out.cell (k := 4) rfl
          have hr5 := b5.out.cell (k := 5) rfl
          have hr6 := b5.out.cell (k := 6) rfl
          have hr7 := b5.out.cell (k := 7) rfl
          have hr8 := b5.out.cell (k := 8) rfl
          go_wp2_with fail
          refine bodyPost_ret (v := .tuple #[.agg #[.int .i64 h, .int .i64 l, .int .i64 r, .int .i64 lo, .int .i64 ro, .int .i64 rh, .int .i64 d, .int .i64 o, .int .i64 k], .slice p xs.length cc]) ?_ rfl ?_
          · simp [results, Try.f10, asAddr, loadVar, loadCells, loadCellsFrom, Addr.add, hr0, hr1, hr2, hr3, hr4, hr5, hr6, hr7, hr8]
          · exact ⟨_, _, _, _, _, _, _, _, _, p, cc, xs, rfl, O5.out.ints, by omega, HU5.out⟩
end Go.Proofs.Ytbjeaadnanimfaa
