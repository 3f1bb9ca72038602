/- Chapter 5: LengthRange of the reference. -/
import Derived.Test.YtbjeaadnanimfaaRange
namespace Go.Proofs.Ytbjeaadnanimfaa
open Go.RowKit
set_option linter.unusedVariables false
set_option linter.unusedSimpArgs false

set_option maxRecDepth 20000 in
set_option maxHeartbeats 3200000 in
theorem sLengthRange_c (h l r lo ro rh d o k : Int) (b : Bool) (tol : Int) (w : World) : Calls Try.prog 15 #[.agg #[.int .i64 h, .int .i64 l, .int .i64 r, .int .i64 lo, .int .i64 ro, .int .i64 rh, .int .i64 d, .int .i64 o, .int .i64 k], .bool b, .int .i64 tol] w fun e w' => e = .returned (.tuple #[.agg #[.int .i64 (lrLo h l r lo ro rh d o k tol b), .int .i64 (lrHi h l r lo ro rh d o k tol b)], .int .i64 (lrE h l r lo ro rh d o k tol)]) ∧ Upd [] w w' := by
  have b0 := Blk.new w [h, l, r, lo, ro, rh, d, o, k] 34
  have hs : (w.alloc (.cells #[.int .i64 h, .int .i64 l, .int .i64 r, .int .i64 lo, .int .i64 ro, .int .i64 rh, .int .i64 d, .int .i64 o, .int .i64 k] 34)).heap.size = w.heap.size + 1 := by simp
  have z0 : Blk ((w.alloc (.cells #[.int .i64 h, .int .i64 l, .int .i64 r, .int .i64 lo, .int .i64 ro, .int .i64 rh, .int .i64 d, .int .i64 o, .int .i64 k] 34)).alloc (.cells #[.int .i64 0, .int .i64 0] 42)) (w.alloc (.cells #[.int .i64 h, .int .i64 l, .int .i64 r, .int .i64 lo, .int .i64 ro, .int .i64 rh, .int .i64 d, .int .i64 o, .int .i64 k] 34)).heap.size [0, 0] 42 := Blk.new _ [0, 0] _
  rw [hs] at z0
  have b1 : Blk ((w.alloc (.cells #[.int .i64 h, .int .i64 l, .int .i64 r, .int .i64 lo, .int .i64 ro, .int .i64 rh, .int .i64 d, .int .i64 o, .int .i64 k] 34)).alloc (.cells #[.int .i64 0, .int .i64 0] 42)) w.heap.size [h, l, r, lo, ro, rh, d, o, k] 34 := b0.kept0 ((Upd.refl _).alloc _)
  have u1 : Upd [] w ((w.alloc (.cells #[.int .i64 h, .int .i64 l, .int .i64 r, .int .i64 lo, .int .i64 ro, .int .i64 rh, .int .i64 d, .int .i64 o, .int .i64 k] 34)).alloc (.cells #[.int .i64 0, .int .i64 0] 42)) := ((Upd.refl w).alloc _).alloc _
  obtain ⟨w1, hw1⟩ : ∃ W, (w.alloc (.cells #[.int .i64 h, .int .i64 l, .int .i64 r, .int .i64 lo, .int .i64 ro, .int .i64 rh, .int .i64 d, .int .i64 o, .int .i64 k] 34)).alloc (.cells #[.int .i64 0, .int .i64 0] 42) = W := ⟨_, rfl⟩
  rw [hw1] at b1 z0 u1
  obtain ⟨X, hX⟩ : ∃ X, w.heap.size = X := ⟨_, rfl⟩
  obtain ⟨Y, hY⟩ : ∃ Y, X + 1 = Y := ⟨_, rfl⟩
  rw [hX] at b1 z0
  rw [hY] at z0
  have BX := Lib.hid b1
  have BY := Lib.hid z0
  have U := Lib.hid u1
  have HXY : Hid (w.heap.size ≤ X ∧ w.heap.size ≤ Y ∧ X ≠ Y ∧ Y < w1.heap.size ∧ X < w1.heap.size) := by have := z0.lt; have := b1.lt; show _ ∧ _ ∧ _ ∧ _ ∧ _; omega
  obtain ⟨c0, c1, c2, c3, c4, c5, c6, c7, c8⟩ := b1.whC
  clear b0 z0 b1 u1 hs
  cases q : whB h l r lo ro rh d o k
  · have HE : Hid (lrE h l r lo ro rh d o k tol = 1) := by show _ = _; simp [lrE, q]
    have HV : Hid (lrLo h l r lo ro rh d o k tol b = 0 ∧ lrHi h l r lo ro rh d o k tol b = 0) := by constructor <;> (first | unfold lrLo | unfold lrHi) <;> rw [HE.out] <;> rfl
    go_enter Try.func15, Try.ntmps15
    go_wp2_with fail
    try rw [hX]
    try rw [hY]
    try rw [hw1]
    clear c0 c1 c2 c3 c4 c5 c6 c7 c8
    clear hw1 hX hY
    refine (sIsWheel_c _ _ _ _ _ _ _ _ _ _).mono ?_
    rintro e w2 ⟨rfl, hu⟩
    replace BX := Lib.hid (BX.out.kept0 hu)
    replace BY := Lib.hid (BY.out.kept0 hu)
    replace U := Lib.hid (U.out.then0 hu)
    have HSZ : Hid (Y < w2.heap.size ∧ X < w2.heap.size) := by have := hu.size; have := HXY.out; show _ ∧ _; omega
    clear hu
    rw [q]
    clear q
    have y0 := BY.out.cell (k := 0) rfl
    have y1 := BY.out.cell (k := 1) rfl
    have fy0 := BY.out.free 0
    have fy1 := BY.out.free 1
    have byy := (BY.out.set 0 (0)).set 1 (0)
    have hr0 := byy.cell (k := 0) rfl
    have hr1 := byy.cell (k := 1) rfl
    have UY : Hid (Upd [] w ((w2.setCell ⟨Y, 0, none⟩ (.int .i64 (0))).setCell ⟨Y, 1, none⟩ (.int .i64 (0)))) := (U.out.setCell _ (.inr HXY.out.2.1)).setCell _ (.inr HXY.out.2.1)
    clear byy
    go_wp2_with fail
    refine bodyPost_ret (v := .tuple #[.agg #[.int .i64 (0), .int .i64 (0)], .int .i64 (1)]) ?_ rfl ?_
    · simp [results, Try.f15, asAddr, loadVar, loadCells, loadCellsFrom, Addr.add, hr0, hr1]
    · exact ⟨ret_iv HV.out.1.symm HV.out.2.symm HE.out.symm, UY.out⟩
  · cases q2 : inB tol 0 20
    · have HE : Hid (lrE h l r lo ro rh d o k tol = 2) := by show _ = _; simp [lrE, q, q2]
      have HV : Hid (lrLo h l r lo ro rh d o k tol b = 0 ∧ lrHi h l r lo ro rh d o k tol b = 0) := by constructor <;> (first | unfold lrLo | unfold lrHi) <;> rw [HE.out] <;> rfl
      go_enter Try.func15, Try.ntmps15
      go_wp2_with fail
      try rw [hX]
      try rw [hY]
      try rw [hw1]
      clear c0 c1 c2 c3 c4 c5 c6 c7 c8
      clear hw1 hX hY
      refine (sIsWheel_c _ _ _ _ _ _ _ _ _ _).mono ?_
      rintro e w2 ⟨rfl, hu⟩
      replace BX := Lib.hid (BX.out.kept0 hu)
      replace BY := Lib.hid (BY.out.kept0 hu)
      replace U := Lib.hid (U.out.then0 hu)
      have HSZ : Hid (Y < w2.heap.size ∧ X < w2.heap.size) := by have := hu.size; have := HXY.out; show _ ∧ _; omega
      clear hu
      rw [q]
      clear q
      go_upto_region 4 with (go_at_call 41; refine (l01In_c _ _ _ _).mono ?_; rintro e w' ⟨rfl, rfl⟩)
      clear q2
      have y0 := BY.out.cell (k := 0) rfl
      have y1 := BY.out.cell (k := 1) rfl
      have fy0 := BY.out.free 0
      have fy1 := BY.out.free 1
      have byy := (BY.out.set 0 (0)).set 1 (0)
      have hr0 := byy.cell (k := 0) rfl
      have hr1 := byy.cell (k := 1) rfl
      have UY : Hid (Upd [] w ((w2.setCell ⟨Y, 0, none⟩ (.int .i64 (0))).setCell ⟨Y, 1, none⟩ (.int .i64 (0)))) := (U.out.setCell _ (.inr HXY.out.2.1)).setCell _ (.inr HXY.out.2.1)
      clear byy
      go_wp2_with fail
      refine bodyPost_ret (v := .tuple #[.agg #[.int .i64 (0), .int .i64 (0)], .int .i64 (2)]) ?_ rfl ?_
      · simp [results, Try.f15, asAddr, loadVar, loadCells, loadCellsFrom, Addr.add, hr0, hr1]
      · exact ⟨ret_iv HV.out.1.symm HV.out.2.symm HE.out.symm, UY.out⟩
    · have htol := inB_t q2
      obtain ⟨-, -, -, -, -, hd, -, -⟩ := whB_t q
      have hwm : IntKind.i64.wrap (-tol) = -tol := IntWalk.i64_in _ (by omega)
      obtain ⟨N, hN⟩ : ∃ N : Nat, (2 * tol + 1).toNat = N := ⟨_, rfl⟩
      have hNi : (N : Int) = 2 * tol + 1 := by omega
      have HV5 : Hid (∀ D : Int, (∃ j : Nat, j < N ∧ D = d - tol + j) → ¬ (2000 ≤ D ∧ D ≤ 7000) → lrLo h l r lo ro rh d o k tol b = 0 ∧ lrHi h l r lo ro rh d o k tol b = 0 ∧ lrE h l r lo ro rh d o k tol = 5) := fun D ⟨j, hj, hD⟩ hn => by
        have e : lrE h l r lo ro rh d o k tol = 5 := by
          unfold lrE; rw [if_pos q, if_pos q2, if_neg (by omega)]
        exact ⟨by unfold lrLo; rw [e]; rfl, by unfold lrHi; rw [e]; rfl, e⟩
      have HV0 : Hid ((∀ j : Nat, j < N → 2000 ≤ d - tol + j ∧ d - tol + j ≤ 7000) → lrLo h l r lo ro rh d o k tol b = loM (rgF h l r lo ro rh d o k tol b) 1000000000 N ∧ lrHi h l r lo ro rh d o k tol b = hiM (rgF h l r lo ro rh d o k tol b) (-1000000000) N ∧ lrE h l r lo ro rh d o k tol = 0) := fun hall => by
        have h1 := hall 0 (by omega)
        have h2 := hall (N - 1) (by omega)
        have e : lrE h l r lo ro rh d o k tol = 0 := by
          unfold lrE; rw [if_pos q, if_pos q2, if_pos (by omega)]
        have hm : rgF h l r lo ro rh d o k tol b tol.toNat = lenV h l r lo ro rh d o k b := by
          unfold rgF; rw [show d - tol + (tol.toNat : Int) = d by omega]
        have hl := (lenV_in b q).2
        have a1 : lrLo h l r lo ro rh d o k tol b = _ := if_pos e
        have a2 : lrHi h l r lo ro rh d o k tol b = _ := if_pos e
        rw [hN, ← hm] at a1 a2
        refine ⟨?_, ?_, e⟩
        · rw [a1]; exact (loM_from (m := tol.toNat) (n := N) (by omega) (by rw [hm]; omega)).symm
        · rw [a2]; exact (hiM_from (m := tol.toNat) (n := N) (by omega) (by rw [hm]; omega)).symm
      have HWJ : Hid (∀ D : Int, whB h l r lo ro rh D o k = inB D 2000 7000) := fun D => whB_dd q
      clear hN
      go_enter Try.func15, Try.ntmps15
      go_wp2_with fail
      try rw [hX]
      try rw [hY]
      try rw [hw1]
      clear c0 c1 c2 c3 c4 c5 c6 c7 c8
      clear hw1 hX hY
      refine (sIsWheel_c _ _ _ _ _ _ _ _ _ _).mono ?_
      rintro e w2 ⟨rfl, hu⟩
      replace BX := Lib.hid (BX.out.kept0 hu)
      replace BY := Lib.hid (BY.out.kept0 hu)
      replace U := Lib.hid (U.out.then0 hu)
      have HSZ : Hid (Y < w2.heap.size ∧ X < w2.heap.size) := by have := hu.size; have := HXY.out; show _ ∧ _; omega
      clear hu
      rw [q]
      clear q
      go_upto_region 5 with (go_at_call 41; refine (l01In_c _ _ _ _).mono ?_; rintro e w' ⟨rfl, rfl⟩)
      clear q2
      obtain ⟨O, hO⟩ : ∃ O, w2.heap.size = O := ⟨_, rfl⟩
      have bo : Blk (w2.alloc (.cells #[.int .i64 1000000000, .int .i64 (-1000000000)] 42)) w2.heap.size [1000000000, -1000000000] 42 := Blk.new w2 [1000000000, -1000000000] _
      have uo : Upd [] w2 (w2.alloc (.cells #[.int .i64 1000000000, .int .i64 (-1000000000)] 42)) := (Upd.refl w2).alloc _
      rw [hO] at bo
      replace BX := Lib.hid (BX.out.kept0 uo)
      replace BY := Lib.hid (BY.out.kept0 uo)
      replace U := Lib.hid (U.out.then0 uo)
      have BO := Lib.hid bo
      have HO : Hid (w.heap.size ≤ O ∧ X ≠ O ∧ Y ≠ O) := by have := HSZ.out; have := HXY.out; show _ ∧ _ ∧ _; omega
      clear bo uo HSZ
      go_upto_region 6 with fail
      try rw [hO]
      clear hO
      go_wp2_with fail
      clear hwm
      generalize w2.alloc (.cells #[.int .i64 1000000000, .int .i64 (-1000000000)] 42) = w4 at BX BY BO U ⊢
      go_loopw [9] (fun i wr => ∃ (j : Nat) (t lo2 hi2 : Int), j ≤ N ∧ i = .int .i64 t ∧ Hid (t = -tol + j) ∧ Hid (∀ i : Nat, i < j → 2000 ≤ d - tol + i ∧ d - tol + i ≤ 7000) ∧ Hid (loM (rgF h l r lo ro rh d o k tol b) 1000000000 j = lo2) ∧ Hid (hiM (rgF h l r lo ro rh d o k tol b) (-1000000000) j = hi2) ∧ Hid (Blk wr X [h, l, r, lo, ro, rh, d, o, k] 34) ∧ Hid (Blk wr Y [0, 0] 42) ∧ Hid (Blk wr O [lo2, hi2] 42) ∧ Hid (Upd [] w wr)) (fun i _ => (tol + 1 - intOf i).toNat)
      case atStart => exact ⟨0, -tol, _, _, by omega, rfl, (by show _ = _; simp), (fun i hi => absurd hi (Nat.not_lt_zero _)), rfl, rfl, BX, BY, BO, U⟩
      case round =>
        clear BX BY BO U
        obtain ⟨j, t, lo2, hi2, hj, rfl, HT, HALL, HL, HH, BX, BY, BO, U⟩ := hrel
        obtain ⟨w5, ew5⟩ : ∃ x : World, x = wr := ⟨_, rfl⟩
        subst ew5
        by_cases hlt : j < N
        · have ht : t ≤ tol := by have := HT.out; omega
          have ht2 : -20 ≤ t := by have := HT.out; omega
          obtain ⟨D, hD⟩ : ∃ D, D = d + t := ⟨_, rfl⟩
          have HDJ : Hid (D = d - tol + j) := by have := HT.out; show _ = _; omega
          have hwD : IntKind.i64.wrap (d + t) = D := by rw [hD]; exact IntWalk.i64_in _ (by omega)
          have hwt : IntKind.i64.wrap (t + 1) = t + 1 := IntWalk.i64_in _ (by omega)
          clear hD
          have hXl := BX.out.lt
          have hYl := BY.out.lt
          have hOl := BO.out.lt
          obtain ⟨c0, c1, c2, c3, c4, c5, c6, c7, c8⟩ := BX.out.whC
          have hcA : (w5.alloc (.cells #[.int .i64 h, .int .i64 l, .int .i64 r, .int .i64 lo, .int .i64 ro, .int .i64 rh, .int .i64 d, .int .i64 o, .int .i64 k] 34)).cell? ⟨X, 6, none⟩ = some (.int .i64 d) := (BX.out.kept0 ((Upd.refl w5).alloc _)).cell rfl
          have bz : Blk (w5.alloc (.cells #[.int .i64 h, .int .i64 l, .int .i64 r, .int .i64 lo, .int .i64 ro, .int .i64 rh, .int .i64 D, .int .i64 o, .int .i64 k] 34)) w5.heap.size [h, l, r, lo, ro, rh, D, o, k] 34 := Blk.new w5 [h, l, r, lo, ro, rh, D, o, k] _
          have uz : Upd [] w5 (w5.alloc (.cells #[.int .i64 h, .int .i64 l, .int .i64 r, .int .i64 lo, .int .i64 ro, .int .i64 rh, .int .i64 D, .int .i64 o, .int .i64 k] 34)) := (Upd.refl w5).alloc _
          have BZ := Lib.hid bz
          replace BX := Lib.hid (BX.out.kept0 uz)
          replace BY := Lib.hid (BY.out.kept0 uz)
          replace BO := Lib.hid (BO.out.kept0 uz)
          replace U := Lib.hid (U.out.then0 uz)
          clear bz uz hXl hYl hOl
          go_wp2_with fail
          clear hcA c0 c1 c2 c3 c4 c5 c6 c7 c8 hwD
          refine (sIsWheel_c h l r lo ro rh D o k _).mono ?_
          rintro e w6 ⟨rfl, hu⟩
          replace BX := Lib.hid (BX.out.kept0 hu)
          replace BY := Lib.hid (BY.out.kept0 hu)
          replace BO := Lib.hid (BO.out.kept0 hu)
          replace BZ := Lib.hid (BZ.out.kept0 hu)
          replace U := Lib.hid (U.out.then0 hu)
          clear hu
          rw [HWJ.out D]
          cases q3 : inB D 2000 7000
          · have HV := Lib.hid (HV5.out D ⟨j, hlt, HDJ.out⟩ (inB_f q3))
            clear q3 hwt BX BO BZ HL HH HALL
            have y0 := BY.out.cell (k := 0) rfl
            have y1 := BY.out.cell (k := 1) rfl
            have fy0 := BY.out.free 0
            have fy1 := BY.out.free 1
            have byy := (BY.out.set 0 (0)).set 1 (0)
            have hr0 := byy.cell (k := 0) rfl
            have hr1 := byy.cell (k := 1) rfl
            have UY : Hid (Upd [] w ((w6.setCell ⟨Y, 0, none⟩ (.int .i64 (0))).setCell ⟨Y, 1, none⟩ (.int .i64 (0)))) := (U.out.setCell _ (.inr HXY.out.2.1)).setCell _ (.inr HXY.out.2.1)
            clear byy
            go_wp2_with fail
            refine bodyPost_ret (v := .tuple #[.agg #[.int .i64 (0), .int .i64 (0)], .int .i64 (5)]) ?_ rfl ?_
            · simp [results, Try.f15, asAddr, loadVar, loadCells, loadCellsFrom, Addr.add, hr0, hr1]
            · exact ⟨ret_iv HV.out.1.symm HV.out.2.1.symm HV.out.2.2.symm, UY.out⟩
          · have HWD : Hid (whB h l r lo ro rh D o k = true) := (HWJ.out D).trans q3
            have HALL2 : Hid (∀ i : Nat, i < j + 1 → 2000 ≤ d - tol + i ∧ d - tol + i ≤ 7000) := fun i hi => by
              by_cases e : i = j
              · subst e; have := inB_t q3; have := HDJ.out; omega
              · exact HALL.out i (by omega)
            obtain ⟨c0, c1, c2, c3, c4, c5, c6, c7, c8⟩ := BZ.out.whC
            clear q3 HALL
            go_upto_region 13 with fail
            go_wp2_with fail
            clear c0 c1 c2 c3 c4 c5 c6 c7 c8
            refine (sLen_c h l r lo ro rh D o k b _ HWD.out).mono ?_
            rintro e w7 ⟨rfl, hu⟩
            have HFj : Hid (rgF h l r lo ro rh d o k tol b j = lenV h l r lo ro rh D o k b) := by show _ = _; rw [HDJ.out]; rfl
            have HL2 : Hid (loM (rgF h l r lo ro rh d o k tol b) 1000000000 (j + 1) = min lo2 (lenV h l r lo ro rh D o k b)) := by show min _ _ = _; rw [HL.out, HFj.out]
            have HH2 : Hid (hiM (rgF h l r lo ro rh d o k tol b) (-1000000000) (j + 1) = max hi2 (lenV h l r lo ro rh D o k b)) := by show max _ _ = _; rw [HH.out, HFj.out]
            have BO3 := Lib.hid (BO.out.kept0 hu)
            have BX3 := Lib.hid (BX.out.kept0 hu)
            have BY3 := Lib.hid (BY.out.kept0 hu)
            have U3 := Lib.hid (U.out.then0 hu)
            clear hu BO BX BY BZ U HFj HL HH HWD
            generalize lenV h l r lo ro rh D o k b = F at HL2 HH2 ⊢
            have o0 := BO3.out.cell (k := 0) rfl
            have o1 := BO3.out.cell (k := 1) rfl
            have fo0 := BO3.out.free 0
            have fo1 := BO3.out.free 1
            have BO4 := Lib.hid ((BO3.out.set 0 (min lo2 F)).set 1 (max hi2 F))
            have u4 : Upd [O] w7 ((w7.setCell ⟨O, 0, none⟩ (.int .i64 (min lo2 F))).setCell ⟨O, 1, none⟩ (.int .i64 (max hi2 F))) := (((Upd.refl w7).mono (by simp)).setCell _ (.inl (by simp))).setCell _ (.inl (by simp))
            have BX4 := Lib.hid (BX3.out.kept u4 (by have := HO.out; simp; omega))
            have BY4 := Lib.hid (BY3.out.kept u4 (by have := HO.out; simp; omega))
            have U4 : Hid (Upd [] w _) := (U3.out.setCell (p := ⟨O, 0, none⟩) (.int .i64 (min lo2 F)) (.inr HO.out.1)).setCell (p := ⟨O, 1, none⟩) (.int .i64 (max hi2 F)) (.inr HO.out.1)
            clear u4 BX3 BY3 BO3 U3
            go_wp2_with fail
            go_roundw
            case rel => exact ⟨j + 1, t + 1, _, _, by omega, rfl, (by have := HT.out; show _ = _; omega), HALL2, HL2, HH2, BX4, BY4, BO4, U4⟩
            case measure => simp [intOf]; omega
        · have ht : ¬ t ≤ tol := by have := HT.out; omega
          obtain rfl : j = N := by omega
          have HV := Lib.hid (HV0.out HALL.out)
          have HLL := Lib.hid (HL.out.symm.trans HV.out.1.symm)
          have HHH := Lib.hid (HH.out.symm.trans HV.out.2.1.symm)
          have o0 := BO.out.cell (k := 0) rfl
          have o1 := BO.out.cell (k := 1) rfl
          have hne : ¬ Y = O := HO.out.2.2
          have hne2 : ¬ O = Y := fun h => hne h.symm
          have y0 := BY.out.cell (k := 0) rfl
          have y1 := BY.out.cell (k := 1) rfl
          have fy0 := BY.out.free 0
          have fy1 := BY.out.free 1
          have byy := (BY.out.set 0 (lo2)).set 1 (hi2)
          have hr0 := byy.cell (k := 0) rfl
          have hr1 := byy.cell (k := 1) rfl
          have UY : Hid (Upd [] w ((w5.setCell ⟨Y, 0, none⟩ (.int .i64 (lo2))).setCell ⟨Y, 1, none⟩ (.int .i64 (hi2)))) := (U.out.setCell _ (.inr HXY.out.2.1)).setCell _ (.inr HXY.out.2.1)
          clear byy
          go_wp2_with fail
          refine bodyPost_ret (v := .tuple #[.agg #[.int .i64 (lo2), .int .i64 (hi2)], .int .i64 (0)]) ?_ rfl ?_
          · simp [results, Try.f15, asAddr, loadVar, loadCells, loadCellsFrom, Addr.add, hr0, hr1]
          · exact ⟨ret_iv HLL.out HHH.out HV.out.2.2.symm, UY.out⟩
end Go.Proofs.Ytbjeaadnanimfaa
