/- Chapter 5: LengthRange. -/
import Derived.Test.YtbjeaadnanimfaaStockL
import Derived.Deep.CutBlock
import Derived.Lib.MinMax
namespace Go.Proofs.Ytbjeaadnanimfaa
open Go.RowKit
set_option linter.unusedVariables false
set_option linter.unusedSimpArgs false

theorem whB_dd {h l r lo ro rh d o k D : Int} (e : whB h l r lo ro rh d o k = true) : whB h l r lo ro rh D o k = inB D 2000 7000 := by
  cases q : inB D 2000 7000
  · have := inB_f q
    cases q2 : whB h l r lo ro rh D o k
    · rfl
    · exfalso; exact this (whB_t q2).2.2.2.2.2.1
  · exact whB_d e (inB_t q)
theorem ret_iv {a b c a2 b2 c2 : Int} (h : a = a2) (k : b = b2) (j : c = c2) : Ending.returned (.tuple #[.agg #[.int .i64 a, .int .i64 b], .int .i64 c]) = .returned (.tuple #[.agg #[.int .i64 a2, .int .i64 b2], .int .i64 c2]) := by rw [h, k, j]
set_option maxRecDepth 20000 in
set_option maxHeartbeats 3200000 in
theorem iLengthRange_c (h l r lo ro rh d o k : Int) (b : Bool) (tol : Int) (w : World) : Calls Try.prog 14 #[.agg #[.int .i64 h, .int .i64 l, .int .i64 r, .int .i64 lo, .int .i64 ro, .int .i64 rh, .int .i64 d, .int .i64 o, .int .i64 k], .bool b, .int .i64 tol] w fun e w' => e = .returned (.tuple #[.agg #[.int .i64 (lrLo h l r lo ro rh d o k tol b), .int .i64 (lrHi h l r lo ro rh d o k tol b)], .int .i64 (lrE h l r lo ro rh d o k tol)]) ∧ Upd [] w w' := by
  have b0 := Blk.new w [h, l, r, lo, ro, rh, d, o, k] 34
  have hs : (w.alloc (.cells #[.int .i64 h, .int .i64 l, .int .i64 r, .int .i64 lo, .int .i64 ro, .int .i64 rh, .int .i64 d, .int .i64 o, .int .i64 k] 34)).heap.size = w.heap.size + 1 := by simp
  have z0 : Blk ((w.alloc (.cells #[.int .i64 h, .int .i64 l, .int .i64 r, .int .i64 lo, .int .i64 ro, .int .i64 rh, .int .i64 d, .int .i64 o, .int .i64 k] 34)).alloc (.cells #[.int .i64 0, .int .i64 0] 42)) (w.alloc (.cells #[.int .i64 h, .int .i64 l, .int .i64 r, .int .i64 lo, .int .i64 ro, .int .i64 rh, .int .i64 d, .int .i64 o, .int .i64 k] 34)).heap.size [0, 0] 42 := Blk.new _ [0, 0] _
  rw [hs] at z0
  have b1 : Blk ((w.alloc (.cells #[.int .i64 h, .int .i64 l, .int .i64 r, .int .i64 lo, .int .i64 ro, .int .i64 rh, .int .i64 d, .int .i64 o, .int .i64 k] 34)).alloc (.cells #[.int .i64 0, .int .i64 0] 42)) w.heap.size [h, l, r, lo, ro, rh, d, o, k] 34 := b0.kept0 ((Upd.refl _).alloc _)
  have u1 : Upd [] w ((w.alloc (.cells #[.int .i64 h, .int .i64 l, .int .i64 r, .int .i64 lo, .int .i64 ro, .int .i64 rh, .int .i64 d, .int .i64 o, .int .i64 k] 34)).alloc (.cells #[.int .i64 0, .int .i64 0] 42)) := ((Upd.refl w).alloc _).alloc _
  obtain ⟨w1, hw1⟩ : ∃ W, (w.alloc (.cells #[.int .i64 h, .int .i64 l, .int .i64 r, .int .i64 lo, .int .i64 ro, .int .i64 rh, .int .i64 d, .int .i64 o, .int .i64 k] 34)).alloc (.cells #[.int .i64 0, .int .i64 0] 42) = W := ⟨_, rfl⟩
  rw [hw1] at b1 z0 u1
  obtain ⟨X, hX⟩ : ∃ X, w.heap.size = X := ⟨_, rfl⟩
  obtain ⟨Y, hY⟩ : ∃ Y, X + 1 = Y := ⟨_, rfl⟩
  rw [hX] at b1 z0
  rw [hY] at z0
  have BX := Lib.hid b1
  have BY := Lib.hid z0
  have U := Lib.hid u1
  have HXY : Hid (w.heap.size ≤ X ∧ w.heap.size ≤ Y ∧ X ≠ Y ∧ Y < w1.heap.size ∧ X < w1.heap.size) := by have := z0.lt; have := b1.lt; show _ ∧ _ ∧ _ ∧ _ ∧ _; omega
  obtain ⟨c0, c1, c2, c3, c4, c5, c6, c7, c8⟩ := b1.whC
  clear b0 z0 b1 u1 hs
  cases q : whB h l r lo ro rh d o k
  · have HE : Hid (lrE h l r lo ro rh d o k tol = 1) := by show _ = _; simp [lrE, q]
    have HV : Hid (lrLo h l r lo ro rh d o k tol b = 0 ∧ lrHi h l r lo ro rh d o k tol b = 0) := by constructor <;> (first | unfold lrLo | unfold lrHi) <;> rw [HE.out] <;> rfl
    go_enter Try.func14, Try.ntmps14
    go_wp2_with fail
    try rw [hX]
    try rw [hY]
    try rw [hw1]
    clear c0 c1 c2 c3 c4 c5 c6 c7 c8
    clear hw1 hX hY
    refine (iIsWheel_c _ _ _ _ _ _ _ _ _ _).mono ?_
    rintro e w2 ⟨rfl, hu⟩
    replace BX := Lib.hid (BX.out.kept0 hu)
    replace BY := Lib.hid (BY.out.kept0 hu)
    replace U := Lib.hid (U.out.then0 hu)
    have HSZ : Hid (Y < w2.heap.size ∧ X < w2.heap.size) := by have := hu.size; have := HXY.out; show _ ∧ _; omega
    clear hu
    rw [q]
    clear q
    have y0 := BY.out.cell (k := 0) rfl
    have y1 := BY.out.cell (k := 1) rfl
    have fy0 := BY.out.free 0
    have fy1 := BY.out.free 1
    have byy := (BY.out.set 0 (0)).set 1 (0)
    have hr0 := byy.cell (k := 0) rfl
    have hr1 := byy.cell (k := 1) rfl
    have UY : Hid (Upd [] w ((w2.setCell ⟨Y, 0, none⟩ (.int .i64 (0))).setCell ⟨Y, 1, none⟩ (.int .i64 (0)))) := (U.out.setCell _ (.inr HXY.out.2.1)).setCell _ (.inr HXY.out.2.1)
    clear byy
    go_wp2_with fail
    refine bodyPost_ret (v := .tuple #[.agg #[.int .i64 (0), .int .i64 (0)], .int .i64 (1)]) ?_ rfl ?_
    · simp [results, Try.f14, asAddr, loadVar, loadCells, loadCellsFrom, Addr.add, hr0, hr1]
    · exact ⟨ret_iv HV.out.1.symm HV.out.2.symm HE.out.symm, UY.out⟩
  · cases q2 : inB tol 0 20
    · have HE : Hid (lrE h l r lo ro rh d o k tol = 2) := by show _ = _; simp [lrE, q, q2]
      have HV : Hid (lrLo h l r lo ro rh d o k tol b = 0 ∧ lrHi h l r lo ro rh d o k tol b = 0) := by constructor <;> (first | unfold lrLo | unfold lrHi) <;> rw [HE.out] <;> rfl
      go_enter Try.func14, Try.ntmps14
      go_wp2_with fail
      try rw [hX]
      try rw [hY]
      try rw [hw1]
      clear c0 c1 c2 c3 c4 c5 c6 c7 c8
      clear hw1 hX hY
      refine (iIsWheel_c _ _ _ _ _ _ _ _ _ _).mono ?_
      rintro e w2 ⟨rfl, hu⟩
      replace BX := Lib.hid (BX.out.kept0 hu)
      replace BY := Lib.hid (BY.out.kept0 hu)
      replace U := Lib.hid (U.out.then0 hu)
      have HSZ : Hid (Y < w2.heap.size ∧ X < w2.heap.size) := by have := hu.size; have := HXY.out; show _ ∧ _; omega
      clear hu
      rw [q]
      clear q
      go_upto_region 4 with (go_at_call 38; refine (within_c _ _ _ _).mono ?_; rintro e w' ⟨rfl, rfl⟩)
      clear q2
      have y0 := BY.out.cell (k := 0) rfl
      have y1 := BY.out.cell (k := 1) rfl
      have fy0 := BY.out.free 0
      have fy1 := BY.out.free 1
      have byy := (BY.out.set 0 (0)).set 1 (0)
      have hr0 := byy.cell (k := 0) rfl
      have hr1 := byy.cell (k := 1) rfl
      have UY : Hid (Upd [] w ((w2.setCell ⟨Y, 0, none⟩ (.int .i64 (0))).setCell ⟨Y, 1, none⟩ (.int .i64 (0)))) := (U.out.setCell _ (.inr HXY.out.2.1)).setCell _ (.inr HXY.out.2.1)
      clear byy
      go_wp2_with fail
      refine bodyPost_ret (v := .tuple #[.agg #[.int .i64 (0), .int .i64 (0)], .int .i64 (2)]) ?_ rfl ?_
      · simp [results, Try.f14, asAddr, loadVar, loadCells, loadCellsFrom, Addr.add, hr0, hr1]
      · exact ⟨ret_iv HV.out.1.symm HV.out.2.symm HE.out.symm, UY.out⟩
    · have htol := inB_t q2
      obtain ⟨-, -, -, -, -, hd, -, -⟩ := whB_t q
      have hw2 : IntKind.i64.wrap (d - tol) = d - tol := IntWalk.i64_in _ (by omega)
      have hw3 : IntKind.i64.wrap (d + tol) = d + tol := IntWalk.i64_in _ (by omega)
      cases q3 : inB (d - tol) 2000 7000
      · have hn := inB_f q3
        have HE : Hid (lrE h l r lo ro rh d o k tol = 5) := by show _ = _; simp [lrE, q, q2]; omega
        have HV : Hid (lrLo h l r lo ro rh d o k tol b = 0 ∧ lrHi h l r lo ro rh d o k tol b = 0) := by constructor <;> (first | unfold lrLo | unfold lrHi) <;> rw [HE.out] <;> rfl
        go_enter Try.func14, Try.ntmps14
        go_wp2_with fail
        try rw [hX]
        try rw [hY]
        try rw [hw1]
        clear c0 c1 c2 c3 c4 c5 c6 c7 c8
        clear hw1 hX hY
        refine (iIsWheel_c _ _ _ _ _ _ _ _ _ _).mono ?_
        rintro e w2 ⟨rfl, hu⟩
        replace BX := Lib.hid (BX.out.kept0 hu)
        replace BY := Lib.hid (BY.out.kept0 hu)
        replace U := Lib.hid (U.out.then0 hu)
        have HSZ : Hid (Y < w2.heap.size ∧ X < w2.heap.size) := by have := hu.size; have := HXY.out; show _ ∧ _; omega
        clear hu
        rw [q]
        clear q
        obtain ⟨c0, c1, c2, c3, c4, c5, c6, c7, c8⟩ := BX.out.whC
        go_upto_region 6 with (first | (go_at_call 38; refine (within_c _ _ _ _).mono ?_; rintro e w' ⟨rfl, rfl⟩) | (go_at_call 49; refine (isDiameter_c _ _).mono ?_; rintro e w' ⟨rfl, rfl⟩))
        clear q2 q3 hw2 hw3 c0 c1 c2 c3 c4 c5 c6 c7 c8
        have y0 := BY.out.cell (k := 0) rfl
        have y1 := BY.out.cell (k := 1) rfl
        have fy0 := BY.out.free 0
        have fy1 := BY.out.free 1
        have byy := (BY.out.set 0 (0)).set 1 (0)
        have hr0 := byy.cell (k := 0) rfl
        have hr1 := byy.cell (k := 1) rfl
        have UY : Hid (Upd [] w ((w2.setCell ⟨Y, 0, none⟩ (.int .i64 (0))).setCell ⟨Y, 1, none⟩ (.int .i64 (0)))) := (U.out.setCell _ (.inr HXY.out.2.1)).setCell _ (.inr HXY.out.2.1)
        clear byy
        go_wp2_with fail
        refine bodyPost_ret (v := .tuple #[.agg #[.int .i64 (0), .int .i64 (0)], .int .i64 (5)]) ?_ rfl ?_
        · simp [results, Try.f14, asAddr, loadVar, loadCells, loadCellsFrom, Addr.add, hr0, hr1]
        · exact ⟨ret_iv HV.out.1.symm HV.out.2.symm HE.out.symm, UY.out⟩
      · cases q4 : inB (d + tol) 2000 7000
        · have hn := inB_f q4
          have HE : Hid (lrE h l r lo ro rh d o k tol = 5) := by show _ = _; simp [lrE, q, q2]; omega
          have HV : Hid (lrLo h l r lo ro rh d o k tol b = 0 ∧ lrHi h l r lo ro rh d o k tol b = 0) := by constructor <;> (first | unfold lrLo | unfold lrHi) <;> rw [HE.out] <;> rfl
          go_enter Try.func14, Try.ntmps14
          go_wp2_with fail
          try rw [hX]
          try rw [hY]
          try rw [hw1]
          clear c0 c1 c2 c3 c4 c5 c6 c7 c8
          clear hw1 hX hY
          refine (iIsWheel_c _ _ _ _ _ _ _ _ _ _).mono ?_
          rintro e w2 ⟨rfl, hu⟩
          replace BX := Lib.hid (BX.out.kept0 hu)
          replace BY := Lib.hid (BY.out.kept0 hu)
          replace U := Lib.hid (U.out.then0 hu)
          have HSZ : Hid (Y < w2.heap.size ∧ X < w2.heap.size) := by have := hu.size; have := HXY.out; show _ ∧ _; omega
          clear hu
          rw [q]
          clear q
          obtain ⟨c0, c1, c2, c3, c4, c5, c6, c7, c8⟩ := BX.out.whC
          go_upto_region 6 with (first | (go_at_call 38; refine (within_c _ _ _ _).mono ?_; rintro e w' ⟨rfl, rfl⟩) | (go_at_call 49; refine (isDiameter_c _ _).mono ?_; rintro e w' ⟨rfl, rfl⟩))
          clear q2 q3 q4 hw2 hw3 c0 c1 c2 c3 c4 c5 c6 c7 c8
          have y0 := BY.out.cell (k := 0) rfl
          have y1 := BY.out.cell (k := 1) rfl
          have fy0 := BY.out.free 0
          have fy1 := BY.out.free 1
          have byy := (BY.out.set 0 (0)).set 1 (0)
          have hr0 := byy.cell (k := 0) rfl
          have hr1 := byy.cell (k := 1) rfl
          have UY : Hid (Upd [] w ((w2.setCell ⟨Y, 0, none⟩ (.int .i64 (0))).setCell ⟨Y, 1, none⟩ (.int .i64 (0)))) := (U.out.setCell _ (.inr HXY.out.2.1)).setCell _ (.inr HXY.out.2.1)
          clear byy
          go_wp2_with fail
          refine bodyPost_ret (v := .tuple #[.agg #[.int .i64 (0), .int .i64 (0)], .int .i64 (5)]) ?_ rfl ?_
          · simp [results, Try.f14, asAddr, loadVar, loadCells, loadCellsFrom, Addr.add, hr0, hr1]
          · exact ⟨ret_iv HV.out.1.symm HV.out.2.symm HE.out.symm, UY.out⟩
        · have hn := inB_t q3
          have hn2 := inB_t q4
          have HE : Hid (lrE h l r lo ro rh d o k tol = 0) := by show _ = _; simp [lrE, q, q2]; omega
          have HQ := Lib.hid q
          obtain ⟨N, hN⟩ : ∃ N : Nat, (2 * tol + 1).toNat = N := ⟨_, rfl⟩
          have hNi : (N : Int) = 2 * tol + 1 := by omega
          have HV : Hid (lrLo h l r lo ro rh d o k tol b = loM (rgF h l r lo ro rh d o k tol b) (lenV h l r lo ro rh d o k b) N ∧ lrHi h l r lo ro rh d o k tol b = hiM (rgF h l r lo ro rh d o k tol b) (lenV h l r lo ro rh d o k b) N) := by rw [← hN]; exact ⟨if_pos HE.out, if_pos HE.out⟩
          have HWJ : Hid (∀ D : Int, 2000 ≤ D ∧ D ≤ 7000 → whB h l r lo ro rh D o k = true) := fun D hD => whB_d q hD
          clear hN
          go_enter Try.func14, Try.ntmps14
          go_wp2_with fail
          try rw [hX]
          try rw [hY]
          try rw [hw1]
          clear c0 c1 c2 c3 c4 c5 c6 c7 c8
          clear hw1 hX hY
          refine (iIsWheel_c _ _ _ _ _ _ _ _ _ _).mono ?_
          rintro e w2 ⟨rfl, hu⟩
          replace BX := Lib.hid (BX.out.kept0 hu)
          replace BY := Lib.hid (BY.out.kept0 hu)
          replace U := Lib.hid (U.out.then0 hu)
          have HSZ : Hid (Y < w2.heap.size ∧ X < w2.heap.size) := by have := hu.size; have := HXY.out; show _ ∧ _; omega
          clear hu
          rw [q]
          clear q
          obtain ⟨c0, c1, c2, c3, c4, c5, c6, c7, c8⟩ := BX.out.whC
          go_upto_region 7 with (first | (go_at_call 38; refine (within_c _ _ _ _).mono ?_; rintro e w' ⟨rfl, rfl⟩) | (go_at_call 49; refine (isDiameter_c _ _).mono ?_; rintro e w' ⟨rfl, rfl⟩))
          clear q2 q3 q4
          go_wp2_with fail
          refine (iLen_c h l r lo ro rh d o k b _ HQ.out).mono ?_
          rintro e w3 ⟨rfl, hu⟩
          replace BX := Lib.hid (BX.out.kept0 hu)
          replace BY := Lib.hid (BY.out.kept0 hu)
          replace U := Lib.hid (U.out.then0 hu)
          have HSZ3 : Hid (Y < w3.heap.size ∧ X < w3.heap.size) := by have := hu.size; have := HSZ.out; show _ ∧ _; omega
          clear hu c0 c1 c2 c3 c4 c5 c6 c7 c8 HSZ
          generalize lenV h l r lo ro rh d o k b = n at HV ⊢
          obtain ⟨O, hO⟩ : ∃ O, w3.heap.size = O := ⟨_, rfl⟩
          have bo : Blk (w3.alloc (.cells #[.int .i64 n, .int .i64 n] 42)) w3.heap.size [n, n] 42 := Blk.new w3 [n, n] _
          have uo : Upd [] w3 (w3.alloc (.cells #[.int .i64 n, .int .i64 n] 42)) := (Upd.refl w3).alloc _
          rw [hO] at bo
          replace BX := Lib.hid (BX.out.kept0 uo)
          replace BY := Lib.hid (BY.out.kept0 uo)
          have hOU := U.out.size
          replace U := Lib.hid (U.out.then0 uo)
          have BO := Lib.hid bo
          have HO : Hid (w.heap.size ≤ O ∧ X ≠ O ∧ Y ≠ O) := by have := HSZ3.out; show _ ∧ _ ∧ _; omega
          clear bo uo HSZ3 hOU
          obtain ⟨c0, c1, c2, c3, c4, c5, c6, c7, c8⟩ := BX.out.whC
          go_upto_region 11 with fail
          try rw [hO]
          clear hO c0 c1 c2 c3 c4 c5 c6 c7 c8
          go_wp2_with fail
          generalize w3.alloc (.cells #[.int .i64 n, .int .i64 n] 42) = w4 at BX BY BO U ⊢
          go_loopw [11] (fun i wr => ∃ (j : Nat) (t lo2 hi2 : Int), j ≤ N ∧ i = .int .i64 t ∧ Hid (t = d - tol + j) ∧ Hid (loM (rgF h l r lo ro rh d o k tol b) n j = lo2) ∧ Hid (hiM (rgF h l r lo ro rh d o k tol b) n j = hi2) ∧ Hid (∃ x, Blk wr X [h, l, r, lo, ro, rh, x, o, k] 34) ∧ Hid (Blk wr Y [0, 0] 42) ∧ Hid (Blk wr O [lo2, hi2] 42) ∧ Hid (Upd [] w wr)) (fun i _ => (d + tol + 1 - intOf i).toNat)
          case atStart => exact ⟨0, d - tol, n, n, by omega, rfl, (by show _ = _; simp), rfl, rfl, ⟨d, BX.out⟩, BY, BO, U⟩
          case round =>
            clear BX BY BO U
            obtain ⟨j, t, lo2, hi2, hj, rfl, HT, HL, HH, BX, BY, BO, U⟩ := hrel
            obtain ⟨w5, ew5⟩ : ∃ x : World, x = wr := ⟨_, rfl⟩
            subst ew5
            by_cases hlt : j < N
            · have ht : t ≤ d + tol := by have := HT.out; omega
              have ht2 : 2000 ≤ t ∧ t ≤ 7000 := by have := HT.out; omega
              have HWj := Lib.hid (HWJ.out t ht2)
              have hwt : IntKind.i64.wrap (t + 1) = t + 1 := IntWalk.i64_in _ (by omega)
              obtain ⟨x, hbx⟩ := BX.out
              obtain ⟨c0, c1, c2, c3, c4, c5, c6, c7, c8⟩ := hbx.whC
              have f6 := hbx.free 6
              have BX2 := Lib.hid (hbx.set 6 t)
              have u2 : Upd [X] w5 (w5.setCell ⟨X, 6, none⟩ (.int .i64 t)) := ((Upd.refl w5).mono (by simp)).setCell _ (.inl (by simp))
              have BY2 := Lib.hid (BY.out.kept u2 (by have := HXY.out; simp; omega))
              have BO2 := Lib.hid (BO.out.kept u2 (by have := HO.out; simp; omega))
              have U2 : Hid (Upd [] w _) := U.out.setCell (p := ⟨X, 6, none⟩) (.int .i64 t) (.inr HXY.out.1)
              clear hbx u2 BX BY BO U
              go_wp2_with fail
              clear f6 c0 c1 c2 c3 c4 c5 c6 c7 c8
              refine (iLen_c h l r lo ro rh t o k b _ HWj.out).mono ?_
              rintro e w6 ⟨rfl, hu⟩
              have BX3 : Hid (∃ x, Blk w6 X [h, l, r, lo, ro, rh, x, o, k] 34) := ⟨t, BX2.out.kept0 hu⟩
              have BY3 := Lib.hid (BY2.out.kept0 hu)
              have BO3 := Lib.hid (BO2.out.kept0 hu)
              have U3 := Lib.hid (U2.out.then0 hu)
              have HFj : Hid (rgF h l r lo ro rh d o k tol b j = lenV h l r lo ro rh t o k b) := by show _ = _; rw [HT.out]; rfl
              have HL2 : Hid (loM (rgF h l r lo ro rh d o k tol b) n (j + 1) = min lo2 (lenV h l r lo ro rh t o k b)) := by show min _ _ = _; rw [HL.out, HFj.out]
              have HH2 : Hid (hiM (rgF h l r lo ro rh d o k tol b) n (j + 1) = max hi2 (lenV h l r lo ro rh t o k b)) := by show max _ _ = _; rw [HH.out, HFj.out]
              clear hu BX2 BY2 BO2 U2 HFj HL HH
              generalize lenV h l r lo ro rh t o k b = F at HL2 HH2 ⊢
              have o0 := BO3.out.cell (k := 0) rfl
              have o1 := BO3.out.cell (k := 1) rfl
              have fo0 := BO3.out.free 0
              have fo1 := BO3.out.free 1
              have BO4 := Lib.hid ((BO3.out.set 0 (min lo2 F)).set 1 (max hi2 F))
              have u4 : Upd [O] w6 ((w6.setCell ⟨O, 0, none⟩ (.int .i64 (min lo2 F))).setCell ⟨O, 1, none⟩ (.int .i64 (max hi2 F))) := (((Upd.refl w6).mono (by simp)).setCell _ (.inl (by simp))).setCell _ (.inl (by simp))
              obtain ⟨x, hbx⟩ := BX3.out
              have BX4 : Hid (∃ x, Blk _ X [h, l, r, lo, ro, rh, x, o, k] 34) := ⟨x, hbx.kept u4 (by have := HO.out; simp; omega)⟩
              have BY4 := Lib.hid (BY3.out.kept u4 (by have := HO.out; simp; omega))
              have U4 : Hid (Upd [] w _) := (U3.out.setCell (p := ⟨O, 0, none⟩) (.int .i64 (min lo2 F)) (.inr HO.out.1)).setCell (p := ⟨O, 1, none⟩) (.int .i64 (max hi2 F)) (.inr HO.out.1)
              clear hbx u4 BX3 BY3 BO3 U3
              go_wp2_with fail
              go_roundw
              case rel => exact ⟨j + 1, t + 1, _, _, by omega, rfl, (by have := HT.out; show _ = _; omega), HL2, HH2, BX4, BY4, BO4, U4⟩
              case measure => simp [intOf]; omega
            · have ht : ¬ t ≤ d + tol := by have := HT.out; omega
              obtain rfl : j = N := by omega
              have HLL := Lib.hid (HL.out.symm.trans HV.out.1.symm)
              have HHH := Lib.hid (HH.out.symm.trans HV.out.2.symm)
              have o0 := BO.out.cell (k := 0) rfl
              have o1 := BO.out.cell (k := 1) rfl
              have hne : ¬ Y = O := HO.out.2.2
              have hne2 : ¬ O = Y := fun h => hne h.symm
              have y0 := BY.out.cell (k := 0) rfl
              have y1 := BY.out.cell (k := 1) rfl
              have fy0 := BY.out.free 0
              have fy1 := BY.out.free 1
              have byy := (BY.out.set 0 (lo2)).set 1 (hi2)
              have hr0 := byy.cell (k := 0) rfl
              have hr1 := byy.cell (k := 1) rfl
              have UY : Hid (Upd [] w ((w5.setCell ⟨Y, 0, none⟩ (.int .i64 (lo2))).setCell ⟨Y, 1, none⟩ (.int .i64 (hi2)))) := (U.out.setCell _ (.inr HXY.out.2.1)).setCell _ (.inr HXY.out.2.1)
              clear byy
              go_wp2_with fail
              refine bodyPost_ret (v := .tuple #[.agg #[.int .i64 (lo2), .int .i64 (hi2)], .int .i64 (0)]) ?_ rfl ?_
              · simp [results, Try.f14, asAddr, loadVar, loadCells, loadCellsFrom, Addr.add, hr0, hr1]
              · exact ⟨ret_iv HLL.out HHH.out HE.out.symm, UY.out⟩
end Go.Proofs.Ytbjeaadnanimfaa
