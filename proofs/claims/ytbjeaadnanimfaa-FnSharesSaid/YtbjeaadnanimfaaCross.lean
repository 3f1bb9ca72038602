/- Chapter 5: CrossesFor. -/
import Derived.Test.YtbjeaadnanimfaaCrossL
import Derived.Deep.CutBlock
namespace Go.Proofs.Ytbjeaadnanimfaa
open Go.RowKit
set_option linter.unusedVariables false
set_option linter.unusedSimpArgs false

set_option maxRecDepth 20000 in
set_option maxHeartbeats 3200000 in
theorem iCrossesFor_c (h l r lo ro rh d o k len : Int) (b : Bool) (w : World) : Calls Try.prog 28 #[.agg #[.int .i64 h, .int .i64 l, .int .i64 r, .int .i64 lo, .int .i64 ro, .int .i64 rh, .int .i64 d, .int .i64 o, .int .i64 k], .bool b, .int .i64 len] w fun e w' => e = .returned (.tuple #[.int .i64 (crsR h l r lo ro rh d o k len b), .int .i64 (crsE h l r lo ro rh d o k len)]) ∧ Upd [] w w' := by
  have b0 := Blk.new w [h, l, r, lo, ro, rh, d, o, k] 34
  have U : Hid (Upd [] w (w.alloc (.cells #[.int .i64 h, .int .i64 l, .int .i64 r, .int .i64 lo, .int .i64 ro, .int .i64 rh, .int .i64 d, .int .i64 o, .int .i64 k] 34))) := (Upd.refl w).alloc _
  obtain ⟨X, hX⟩ : ∃ X, w.heap.size = X := ⟨_, rfl⟩
  obtain ⟨w1, hw1⟩ : ∃ W, w.alloc (.cells #[.int .i64 h, .int .i64 l, .int .i64 r, .int .i64 lo, .int .i64 ro, .int .i64 rh, .int .i64 d, .int .i64 o, .int .i64 k] 34) = W := ⟨_, rfl⟩
  have b1 : Blk w1 X [h, l, r, lo, ro, rh, d, o, k] 34 := by rw [← hw1, ← hX]; exact b0
  have HS : Hid (∀ w', Upd [] w1 w' → WhC w' X h l r lo ro rh d o k) := fun w' u => (b1.kept0 u).whC
  have BX := Lib.hid b1
  have HX : Hid (w.heap.size ≤ X) := by show _ ≤ _; omega
  rw [hw1] at U
  obtain ⟨c0, c1, c2, c3, c4, c5, c6, c7, c8⟩ := HS.out w1 (Upd.refl _)
  clear b0 b1
  cases q : whB h l r lo ro rh d o k
  · have HV : Hid (crsR h l r lo ro rh d o k len b = 0 ∧ crsE h l r lo ro rh d o k len = 1) := by constructor <;> simp [crsR, crsE, q]
    go_enter Try.func28, Try.ntmps28
    go_wp2_with fail
    try rw [hw1]
    clear hw1 hX
    refine (iIsWheel_c _ _ _ _ _ _ _ _ _ _).mono ?_
    rintro e w2 ⟨rfl, hu⟩
    have V := Lib.hid hu
    rw [q]
    clear hu c0 c1 c2 c3 c4 c5 c6 c7 c8
    obtain ⟨c0, c1, c2, c3, c4, c5, c6, c7, c8⟩ := HS.out _ V.out
    go_wp2_with fail
    go_ret2
    exact ⟨ret_int2 HV.out.1.symm HV.out.2.symm, U.out.then0 V.out⟩
  · have HQ := Lib.hid q
    cases q2 : inB len 0 5000
    · have HV : Hid (crsR h l r lo ro rh d o k len b = 0 ∧ crsE h l r lo ro rh d o k len = 2) := by constructor <;> simp [crsR, crsE, q, q2]
      go_enter Try.func28, Try.ntmps28
      go_wp2_with fail
      try rw [hw1]
      clear hw1 hX
      refine (iIsWheel_c _ _ _ _ _ _ _ _ _ _).mono ?_
      rintro e w2 ⟨rfl, hu⟩
      have V := Lib.hid hu
      rw [q]
      clear hu c0 c1 c2 c3 c4 c5 c6 c7 c8
      obtain ⟨c0, c1, c2, c3, c4, c5, c6, c7, c8⟩ := HS.out _ V.out
      clear q HQ
      go_wp2_with (go_at_call 38; refine (within_c _ _ _ _).mono ?_; rintro e w' ⟨rfl, rfl⟩)
      go_ret2
      exact ⟨ret_int2 HV.out.1.symm HV.out.2.symm, U.out.then0 V.out⟩
    · have hlen := inB_t q2
      obtain ⟨⟨hh1, hh2, hh3⟩, -⟩ := whB_t q
      obtain ⟨N, hN⟩ : ∃ N : Nat, (h / 4).toNat = N := ⟨_, rfl⟩
      have hNi : (N : Int) = h / 4 := by omega
      have HV : Hid (crsR h l r lo ro rh d o k len b = (bestC (awayV h l r lo ro rh d o len b) N).1 ∧ crsE h l r lo ro rh d o k len = 0) := by constructor <;> simp [crsR, crsE, q, q2, hN]
      have HWJ : Hid (∀ j : Nat, j < N → whB h l r lo ro rh d o j = true ∧ 388 ≤ lenV h l r lo ro rh d o j b ∧ lenV h l r lo ro rh d o j b ≤ 4132) := fun j hj => by
        have := whB_k q (j := (j : Int)) (by omega)
        exact ⟨this, (lenV_in b this).2⟩
      have hN12 : N ≤ 12 := by omega
      clear hN
      have hq4 : IntKind.i64.wrap (h.tdiv 4) = (N : Int) := by rw [Int.tdiv_eq_ediv_of_nonneg (by omega), hNi]; exact IntWalk.i64_in _ (by omega)
      clear hq4
      go_enter Try.func28, Try.ntmps28
      go_wp2_with fail
      try rw [hw1]
      clear hw1 hX
      refine (iIsWheel_c _ _ _ _ _ _ _ _ _ _).mono ?_
      rintro e w2 ⟨rfl, hu⟩
      have V := Lib.hid hu
      rw [q]
      clear hu c0 c1 c2 c3 c4 c5 c6 c7 c8
      obtain ⟨c0, c1, c2, c3, c4, c5, c6, c7, c8⟩ := HS.out _ V.out
      go_wp2_with (go_at_call 38; refine (within_c _ _ _ _).mono ?_; rintro e w' ⟨rfl, rfl⟩)
      clear c0 c1 c2 c3 c4 c5 c6 c7 c8 q q2
      have BX2 := Lib.hid (BX.out.kept0 V.out)
      replace V := Lib.hid (U.out.then0 V.out)
      clear BX U HS
      go_loopw [8, 9, 10] (fun p0 q0 i wr => ∃ (j : Nat) (p q : Int), j ≤ N ∧ i = .int .i64 j ∧ p0 = .int .i64 p ∧ q0 = .int .i64 q ∧ Hid ((bestC (awayV h l r lo ro rh d o len b) j).1 = p) ∧ Hid ((bestC (awayV h l r lo ro rh d o len b) j).2 = q) ∧ (∃ x, Hid (Blk wr X [h, l, r, lo, ro, rh, d, o, x] 34)) ∧ Hid (Upd [] w wr)) (fun _ _ i _ => N - (intOf i).toNat)
      case atStart => exact ⟨0, 0, -1, by omega, rfl, rfl, rfl, rfl, rfl, ⟨k, BX2⟩, V⟩
      case round =>
        clear V BX2
        obtain ⟨j, p, q, hj, rfl, rfl, rfl, HP, HQ2, ⟨x, BX⟩, V⟩ := hrel
        obtain ⟨w5, ew5⟩ : ∃ x : World, x = wr := ⟨_, rfl⟩
        subst ew5
        by_cases hlt : j < N
        · obtain ⟨c0, c1, c2, c3, c4, c5, c6, c7, c8⟩ := BX.out.whC
          have f8 := BX.out.free 8
          obtain ⟨hWj, hL1, hL2⟩ := HWJ.out j hlt
          have HWj := Lib.hid hWj
          clear hWj
          have B3 := Lib.hid (BX.out.set 8 (j : Int))
          have V3 : Hid (Upd [] w _) := V.out.setCell (p := ⟨X, 8, none⟩) (.int .i64 (j : Int)) (.inr HX.out)
          go_wp2_with (go_at_call 54; refine (mostCrosses_c _ _ (by omega)).mono ?_; rintro e w' ⟨rfl, rfl⟩)
          refine (iLen_c h l r lo ro rh d o (j : Int) b _ HWj.out).mono ?_
          rintro e w6 ⟨rfl, hu⟩
          have BR : Hid (Blk w6 X [h, l, r, lo, ro, rh, d, o, (j : Int)] 34) := B3.out.kept0 hu
          have V4 := Lib.hid (V3.out.then0 hu)
          clear hu B3 V3 BX V
          obtain ⟨F, HF⟩ : ∃ F, Hid (awayV h l r lo ro rh d o len b j = F) := ⟨_, rfl⟩
          have HF2 : Hid (iabs (lenV h l r lo ro rh d o j b - len) = F) := HF
          obtain ⟨LL, hLL⟩ : ∃ x, x = lenV h l r lo ro rh d o j b := ⟨_, rfl⟩
          rw [← hLL] at hL1 hL2 HF2 ⊢
          clear hLL c0 c1 c2 c3 c4 c5 c6 c7 c8
          have hws : IntKind.i64.wrap (LL - len) = LL - len := IntWalk.i64_in _ (by omega)
          go_upto_region 11 with (go_at_call 55; refine (abs_c _ _ (by omega)).mono ?_; rintro e w' ⟨rfl, rfl⟩; rw [HF2.out])
          by_cases hq0 : q < 0
          · obtain ⟨g1, g2⟩ := bestC_yes HP.out HQ2.out HF.out (.inl hq0)
            have G1 := Lib.hid g1
            have G2 := Lib.hid g2
            clear g1 g2 HP HQ2 HF HF2 hws
            go_wp2_with fail
            go_roundw
            case rel => exact ⟨j + 1, _, _, by omega, by go_num, rfl, rfl, G1, G2, ⟨_, BR⟩, V4⟩
            case measure => simp [intOf]; omega
          · by_cases hfq : F < q
            · obtain ⟨g1, g2⟩ := bestC_yes HP.out HQ2.out HF.out (.inr hfq)
              have G1 := Lib.hid g1
              have G2 := Lib.hid g2
              clear g1 g2 HP HQ2 HF HF2 hws
              go_wp2_with fail
              go_roundw
              case rel => exact ⟨j + 1, _, _, by omega, by go_num, rfl, rfl, G1, G2, ⟨_, BR⟩, V4⟩
              case measure => simp [intOf]; omega
            · obtain ⟨g1, g2⟩ := bestC_no HP.out HQ2.out HF.out (by omega)
              have G1 := Lib.hid g1
              have G2 := Lib.hid g2
              clear g1 g2 HP HQ2 HF HF2 hws
              go_wp2_with fail
              go_roundw
              case rel => exact ⟨j + 1, _, _, by omega, by go_num, rfl, rfl, G1, G2, ⟨_, BR⟩, V4⟩
              case measure => simp [intOf]; omega
        · obtain rfl : j = N := by omega
          obtain ⟨c0, -⟩ := BX.out.whC
          have HPN := Lib.hid (HV.out.1.trans HP.out)
          go_wp2_with (go_at_call 54; refine (mostCrosses_c _ _ (by omega)).mono ?_; rintro e w' ⟨rfl, rfl⟩)
          go_ret2
          exact ⟨ret_int2 HPN.out.symm HV.out.2.symm, V.out⟩
set_option maxRecDepth 20000 in
set_option maxHeartbeats 3200000 in
theorem sCrossesFor_c (h l r lo ro rh d o k len : Int) (b : Bool) (w : World) : Calls Try.prog 29 #[.agg #[.int .i64 h, .int .i64 l, .int .i64 r, .int .i64 lo, .int .i64 ro, .int .i64 rh, .int .i64 d, .int .i64 o, .int .i64 k], .bool b, .int .i64 len] w fun e w' => e = .returned (.tuple #[.int .i64 (crsR h l r lo ro rh d o k len b), .int .i64 (crsE h l r lo ro rh d o k len)]) ∧ Upd [] w w' := by
  have b0 := Blk.new w [h, l, r, lo, ro, rh, d, o, k] 34
  have U : Hid (Upd [] w (w.alloc (.cells #[.int .i64 h, .int .i64 l, .int .i64 r, .int .i64 lo, .int .i64 ro, .int .i64 rh, .int .i64 d, .int .i64 o, .int .i64 k] 34))) := (Upd.refl w).alloc _
  obtain ⟨X, hX⟩ : ∃ X, w.heap.size = X := ⟨_, rfl⟩
  obtain ⟨w1, hw1⟩ : ∃ W, w.alloc (.cells #[.int .i64 h, .int .i64 l, .int .i64 r, .int .i64 lo, .int .i64 ro, .int .i64 rh, .int .i64 d, .int .i64 o, .int .i64 k] 34) = W := ⟨_, rfl⟩
  have b1 : Blk w1 X [h, l, r, lo, ro, rh, d, o, k] 34 := by rw [← hw1, ← hX]; exact b0
  have HS : Hid (∀ w', Upd [] w1 w' → WhC w' X h l r lo ro rh d o k) := fun w' u => (b1.kept0 u).whC
  have BX := Lib.hid b1
  have HX : Hid (w.heap.size ≤ X) := by show _ ≤ _; omega
  rw [hw1] at U
  obtain ⟨c0, c1, c2, c3, c4, c5, c6, c7, c8⟩ := HS.out w1 (Upd.refl _)
  clear b0 b1
  cases q : whB h l r lo ro rh d o k
  · have HV : Hid (crsR h l r lo ro rh d o k len b = 0 ∧ crsE h l r lo ro rh d o k len = 1) := by constructor <;> simp [crsR, crsE, q]
    go_enter Try.func29, Try.ntmps29
    go_wp2_with fail
    try rw [hw1]
    clear hw1 hX
    refine (sIsWheel_c _ _ _ _ _ _ _ _ _ _).mono ?_
    rintro e w2 ⟨rfl, hu⟩
    have V := Lib.hid hu
    rw [q]
    clear hu c0 c1 c2 c3 c4 c5 c6 c7 c8
    obtain ⟨c0, c1, c2, c3, c4, c5, c6, c7, c8⟩ := HS.out _ V.out
    go_wp2_with fail
    go_ret2
    exact ⟨ret_int2 HV.out.1.symm HV.out.2.symm, U.out.then0 V.out⟩
  · have HQ := Lib.hid q
    cases q2 : inB len 0 5000
    · have HV : Hid (crsR h l r lo ro rh d o k len b = 0 ∧ crsE h l r lo ro rh d o k len = 2) := by constructor <;> simp [crsR, crsE, q, q2]
      go_enter Try.func29, Try.ntmps29
      go_wp2_with fail
      try rw [hw1]
      clear hw1 hX
      refine (sIsWheel_c _ _ _ _ _ _ _ _ _ _).mono ?_
      rintro e w2 ⟨rfl, hu⟩
      have V := Lib.hid hu
      rw [q]
      clear hu c0 c1 c2 c3 c4 c5 c6 c7 c8
      obtain ⟨c0, c1, c2, c3, c4, c5, c6, c7, c8⟩ := HS.out _ V.out
      clear q HQ
      go_wp2_with (go_at_call 41; refine (l01In_c _ _ _ _).mono ?_; rintro e w' ⟨rfl, rfl⟩)
      go_ret2
      exact ⟨ret_int2 HV.out.1.symm HV.out.2.symm, U.out.then0 V.out⟩
    · have hlen := inB_t q2
      obtain ⟨⟨hh1, hh2, hh3⟩, -⟩ := whB_t q
      obtain ⟨N, hN⟩ : ∃ N : Nat, (h / 4).toNat = N := ⟨_, rfl⟩
      have hNi : (N : Int) = h / 4 := by omega
      have HV : Hid (crsR h l r lo ro rh d o k len b = (bestC (awayV h l r lo ro rh d o len b) N).1 ∧ crsE h l r lo ro rh d o k len = 0) := by constructor <;> simp [crsR, crsE, q, q2, hN]
      have HWJ : Hid (∀ j : Nat, j < N → whB h l r lo ro rh d o j = true ∧ 388 ≤ lenV h l r lo ro rh d o j b ∧ lenV h l r lo ro rh d o j b ≤ 4132) := fun j hj => by
        have := whB_k q (j := (j : Int)) (by omega)
        exact ⟨this, (lenV_in b this).2⟩
      have hN12 : N ≤ 12 := by omega
      clear hN
      have hq4 : IntKind.i64.wrap (h.tdiv 4) = (N : Int) := by rw [Int.tdiv_eq_ediv_of_nonneg (by omega), hNi]; exact IntWalk.i64_in _ (by omega)
      go_enter Try.func29, Try.ntmps29
      go_wp2_with fail
      try rw [hw1]
      clear hw1 hX
      refine (sIsWheel_c _ _ _ _ _ _ _ _ _ _).mono ?_
      rintro e w2 ⟨rfl, hu⟩
      have V := Lib.hid hu
      rw [q]
      clear hu c0 c1 c2 c3 c4 c5 c6 c7 c8
      obtain ⟨c0, c1, c2, c3, c4, c5, c6, c7, c8⟩ := HS.out _ V.out
      go_wp2_with (go_at_call 41; refine (l01In_c _ _ _ _).mono ?_; rintro e w' ⟨rfl, rfl⟩)
      clear c0 c1 c2 c3 c4 c5 c6 c7 c8 q q2
      clear BX HX
      go_loopw [8, 9, 10] (fun p0 q0 i wr => ∃ (j : Nat) (p q : Int), j ≤ N ∧ i = .int .i64 j ∧ p0 = .int .i64 p ∧ q0 = .int .i64 q ∧ Hid ((bestC (awayV h l r lo ro rh d o len b) j).1 = p) ∧ Hid ((bestC (awayV h l r lo ro rh d o len b) j).2 = q) ∧ Hid (Upd [] w1 wr)) (fun _ _ i _ => N - (intOf i).toNat)
      case atStart => exact ⟨0, 0, -1, by omega, rfl, rfl, rfl, rfl, rfl, V⟩
      case round =>
        clear V
        obtain ⟨j, p, q, hj, rfl, rfl, rfl, HP, HQ2, V⟩ := hrel
        obtain ⟨w5, ew5⟩ : ∃ x : World, x = wr := ⟨_, rfl⟩
        subst ew5
        by_cases hlt : j < N
        · obtain ⟨c0, c1, c2, c3, c4, c5, c6, c7, c8⟩ := HS.out _ V.out
          obtain ⟨hWj, hL1, hL2⟩ := HWJ.out j hlt
          have HWj := Lib.hid hWj
          have V3 : Hid (Upd [] w1 (w5.alloc (.cells #[.int .i64 h, .int .i64 l, .int .i64 r, .int .i64 lo, .int .i64 ro, .int .i64 rh, .int .i64 d, .int .i64 o, .int .i64 (j : Int)] 34))) := V.out.alloc _
          clear hWj
          go_wp2_with fail
          refine (sLen_c h l r lo ro rh d o (j : Int) b _ HWj.out).mono ?_
          rintro e w6 ⟨rfl, hu⟩
          have V4 := Lib.hid (V3.out.then0 hu)
          clear hu V3 V
          obtain ⟨F, HF⟩ : ∃ F, Hid (awayV h l r lo ro rh d o len b j = F) := ⟨_, rfl⟩
          have HF2 : Hid (iabs (lenV h l r lo ro rh d o j b - len) = F) := HF
          obtain ⟨LL, hLL⟩ : ∃ x, x = lenV h l r lo ro rh d o j b := ⟨_, rfl⟩
          rw [← hLL] at hL1 hL2 HF2 ⊢
          clear hLL c0 c1 c2 c3 c4 c5 c6 c7 c8
          have hws : IntKind.i64.wrap (LL - len) = LL - len := IntWalk.i64_in _ (by omega)
          go_upto_region 12 with (go_at_call 56; refine (l01Abs_c _ _ (by omega)).mono ?_; rintro e w' ⟨rfl, rfl⟩; rw [HF2.out])
          by_cases hq0 : q < 0
          · obtain ⟨g1, g2⟩ := bestC_yes HP.out HQ2.out HF.out (.inl hq0)
            have G1 := Lib.hid g1
            have G2 := Lib.hid g2
            clear g1 g2 HP HQ2 HF HF2 hws
            go_wp2_with fail
            go_roundw
            case rel => exact ⟨j + 1, _, _, by omega, by go_num, rfl, rfl, G1, G2, V4⟩
            case measure => simp [intOf]; omega
          · by_cases hfq : F < q
            · obtain ⟨g1, g2⟩ := bestC_yes HP.out HQ2.out HF.out (.inr hfq)
              have G1 := Lib.hid g1
              have G2 := Lib.hid g2
              clear g1 g2 HP HQ2 HF HF2 hws
              go_wp2_with fail
              go_roundw
              case rel => exact ⟨j + 1, _, _, by omega, by go_num, rfl, rfl, G1, G2, V4⟩
              case measure => simp [intOf]; omega
            · obtain ⟨g1, g2⟩ := bestC_no HP.out HQ2.out HF.out (by omega)
              have G1 := Lib.hid g1
              have G2 := Lib.hid g2
              clear g1 g2 HP HQ2 HF HF2 hws
              go_wp2_with fail
              go_roundw
              case rel => exact ⟨j + 1, _, _, by omega, by go_num, rfl, rfl, G1, G2, V4⟩
              case measure => simp [intOf]; omega
        · obtain rfl : j = N := by omega
          obtain ⟨c0, -⟩ := HS.out _ V.out
          have HPN := Lib.hid (HV.out.1.trans HP.out)
          go_wp2_with fail
          go_ret2
          exact ⟨ret_int2 HPN.out.symm HV.out.2.symm, U.out.then0 V.out⟩
end Go.Proofs.Ytbjeaadnanimfaa
