/- Chapter 5: TensionShare. -/
import Derived.Test.YtbjeaadnanimfaaCrossL
import Derived.Lib.QuietBelow
namespace Go.Proofs.Ytbjeaadnanimfaa
open Go.RowKit Go.Sort
set_option linter.unusedVariables false
set_option linter.unusedSimpArgs false

set_option maxRecDepth 20000 in
set_option maxHeartbeats 3200000 in
theorem iTensionShare_c (h l r lo ro rh d o k : Int) (w : World) : Calls Try.prog 31 #[.agg #[.int .i64 h, .int .i64 l, .int .i64 r, .int .i64 lo, .int .i64 ro, .int .i64 rh, .int .i64 d, .int .i64 o, .int .i64 k]] w fun e w' => e = .returned (.tuple #[.int .i64 (shR h l r lo ro rh d o k), .int .i64 (shE h l r lo ro rh d o k)]) ∧ Upd [] w w' := by
  have b0 := Blk.new w [h, l, r, lo, ro, rh, d, o, k] 34
  have U : Hid (Upd [] w (w.alloc (.cells #[.int .i64 h, .int .i64 l, .int .i64 r, .int .i64 lo, .int .i64 ro, .int .i64 rh, .int .i64 d, .int .i64 o, .int .i64 k] 34))) := (Upd.refl w).alloc _
  obtain ⟨X, hX⟩ : ∃ X, w.heap.size = X := ⟨_, rfl⟩
  obtain ⟨w1, hw1⟩ : ∃ W, w.alloc (.cells #[.int .i64 h, .int .i64 l, .int .i64 r, .int .i64 lo, .int .i64 ro, .int .i64 rh, .int .i64 d, .int .i64 o, .int .i64 k] 34) = W := ⟨_, rfl⟩
  have b1 : Blk w1 X [h, l, r, lo, ro, rh, d, o, k] 34 := by rw [← hw1, ← hX]; exact b0
  have HS : Hid (∀ w', Upd [] w1 w' → WhC w' X h l r lo ro rh d o k) := fun w' u => (b1.kept0 u).whC
  have BX := Lib.hid b1
  have HX : Hid (w.heap.size ≤ X) := by show _ ≤ _; omega
  rw [hw1] at U
  obtain ⟨c0, c1, c2, c3, c4, c5, c6, c7, c8⟩ := HS.out w1 (Upd.refl _)
  clear b0 b1
  clear BX HX
  cases q : whB h l r lo ro rh d o k
  · have HE : Hid (shE h l r lo ro rh d o k = 1) := by show _ = _; simp [shE, q]
    have HV : Hid (shR h l r lo ro rh d o k = 0 ∧ shE h l r lo ro rh d o k = 1) := by refine ⟨?_, HE.out⟩; unfold shR; rw [HE.out]; rfl
    go_enter Try.func31, Try.ntmps31
    go_wp2_with fail
    try rw [hw1]
    clear hw1 hX
    refine (iIsWheel_c _ _ _ _ _ _ _ _ _ _).mono ?_
    rintro e w2 ⟨rfl, hu⟩
    have V := Lib.hid hu
    rw [q]
    clear hu c0 c1 c2 c3 c4 c5 c6 c7 c8
    obtain ⟨c0, c1, c2, c3, c4, c5, c6, c7, c8⟩ := HS.out _ V.out
    go_wp2_with fail
    go_ret2
    exact ⟨ret_int2 HV.out.1.symm HV.out.2.symm, U.out.then0 V.out⟩
  · have HQ := Lib.hid q
    obtain ⟨-, -, -, h4, h5, -, h7, -⟩ := whB_t q
    have hA := offV_bd false h4 h5 h7
    have hB := offV_bd true h4 h5 h7
    have hP := (lenV_in false q).2
    have hQ := (lenV_in true q).2
    obtain ⟨A, AE⟩ : ∃ x, Hid (offV lo ro o false = x) := ⟨_, rfl⟩
    obtain ⟨B, BE⟩ : ∃ x, Hid (offV lo ro o true = x) := ⟨_, rfl⟩
    obtain ⟨P, PE⟩ : ∃ x, Hid (lenV h l r lo ro rh d o k false = x) := ⟨_, rfl⟩
    obtain ⟨Q, QE⟩ : ∃ x, Hid (lenV h l r lo ro rh d o k true = x) := ⟨_, rfl⟩
    rw [AE.out] at hA
    rw [BE.out] at hB
    rw [PE.out] at hP
    rw [QE.out] at hQ
    have HO : Hid (∀ (b : Bool) (w : World), Calls Try.prog 58 #[.agg #[.int .i64 h, .int .i64 l, .int .i64 r, .int .i64 lo, .int .i64 ro, .int .i64 rh, .int .i64 d, .int .i64 o, .int .i64 k], .bool b] w fun e w' => e = .returned (.int .i64 (cond b B A)) ∧ Upd [] w w') := fun b w => by
      cases b
      · rw [show cond false B A = offV lo ro o false from AE.out.symm]; exact iOff_c h l r lo ro rh d o k false w q
      · rw [show cond true B A = offV lo ro o true from BE.out.symm]; exact iOff_c h l r lo ro rh d o k true w q
    have HL : Hid (∀ (b : Bool) (w : World), Calls Try.prog 47 #[.agg #[.int .i64 h, .int .i64 l, .int .i64 r, .int .i64 lo, .int .i64 ro, .int .i64 rh, .int .i64 d, .int .i64 o, .int .i64 k], .bool b] w fun e w' => e = .returned (.int .i64 (cond b Q P)) ∧ Upd [] w w') := fun b w => by
      cases b
      · rw [show cond false Q P = lenV h l r lo ro rh d o k false from PE.out.symm]; exact iLen_c h l r lo ro rh d o k false w q
      · rw [show cond true Q P = lenV h l r lo ro rh d o k true from QE.out.symm]; exact iLen_c h l r lo ro rh d o k true w q
    have HE : Hid (shE h l r lo ro rh d o k = if A < 1 ∨ B < 1 then 5 else 0) := by show _ = _; unfold shE; rw [if_pos q, AE.out, BE.out]
    have HR : Hid (shE h l r lo ro rh d o k = 0 → shR h l r lo ro rh d o k = nearF (1000 * B * P) (A * Q)) := fun h0 => by unfold shR; rw [if_pos h0, AE.out, BE.out, PE.out, QE.out]
    clear h4 h5 h7
    by_cases ha : A < 1
    · have HV0 : Hid (shE h l r lo ro rh d o k = 5) := HE.out.trans (if_pos (by omega))
      have HV : Hid (shR h l r lo ro rh d o k = 0 ∧ shE h l r lo ro rh d o k = 5) := by refine ⟨?_, HV0.out⟩; unfold shR; rw [HV0.out]; rfl
      go_enter Try.func31, Try.ntmps31
      go_wp2_with fail
      try rw [hw1]
      clear hw1 hX
      refine (iIsWheel_c _ _ _ _ _ _ _ _ _ _).mono ?_
      rintro e w2 ⟨rfl, hu⟩
      have V := Lib.hid hu
      rw [q]
      clear hu c0 c1 c2 c3 c4 c5 c6 c7 c8
      obtain ⟨c0, c1, c2, c3, c4, c5, c6, c7, c8⟩ := HS.out _ V.out
      clear q
      go_wp2_with fail
      have r0 := cell_regrown c0
      have r1 := cell_regrown c1
      have r2 := cell_regrown c2
      have r3 := cell_regrown c3
      have r4 := cell_regrown c4
      have r5 := cell_regrown c5
      have r6 := cell_regrown c6
      have r7 := cell_regrown c7
      have r8 := cell_regrown c8
      refine wp_region_quiet_below (by kernel_rfl) (by kernel_rfl) ?_
      repeat (go_big_quiet_step (first | (go_at_call 58; exact Calls.regrown_of ((HO.out _ _).mono fun _ _ hh => ⟨by have h0 := hh.1; simp only [cond_true, cond_false] at h0; exact h0, hh.2.below⟩))))
      refine wpQuiet_nil ?_
      intro _ hw'
      obtain ⟨⟨dq, osq⟩, hw''⟩ := hw'
      subst hw''
      have V3 := Lib.hid (V.out.then0 (Upd.regrown w2 dq osq))
      clear r0 r1 r2 r3 r4 r5 r6 r7 r8 c0 c1 c2 c3 c4 c5 c6 c7 c8
      generalize grow (redrawn w2 dq) osq = w3 at V3 ⊢
      obtain ⟨c0, c1, c2, c3, c4, c5, c6, c7, c8⟩ := HS.out _ V3.out
      go_wp2_with fail
      go_ret2
      exact ⟨ret_int2 HV.out.1.symm HV.out.2.symm, U.out.then0 V3.out⟩
    · by_cases hb : B < 1
      · have HV0 : Hid (shE h l r lo ro rh d o k = 5) := HE.out.trans (if_pos (by omega))
        have HV : Hid (shR h l r lo ro rh d o k = 0 ∧ shE h l r lo ro rh d o k = 5) := by refine ⟨?_, HV0.out⟩; unfold shR; rw [HV0.out]; rfl
        go_enter Try.func31, Try.ntmps31
        go_wp2_with fail
        try rw [hw1]
        clear hw1 hX
        refine (iIsWheel_c _ _ _ _ _ _ _ _ _ _).mono ?_
        rintro e w2 ⟨rfl, hu⟩
        have V := Lib.hid hu
        rw [q]
        clear hu c0 c1 c2 c3 c4 c5 c6 c7 c8
        obtain ⟨c0, c1, c2, c3, c4, c5, c6, c7, c8⟩ := HS.out _ V.out
        clear q
        go_wp2_with fail
        have r0 := cell_regrown c0
        have r1 := cell_regrown c1
        have r2 := cell_regrown c2
        have r3 := cell_regrown c3
        have r4 := cell_regrown c4
        have r5 := cell_regrown c5
        have r6 := cell_regrown c6
        have r7 := cell_regrown c7
        have r8 := cell_regrown c8
        refine wp_region_quiet_below (by kernel_rfl) (by kernel_rfl) ?_
        repeat (go_big_quiet_step (first | (go_at_call 58; exact Calls.regrown_of ((HO.out _ _).mono fun _ _ hh => ⟨by have h0 := hh.1; simp only [cond_true, cond_false] at h0; exact h0, hh.2.below⟩))))
        refine wpQuiet_nil ?_
        intro _ hw'
        obtain ⟨⟨dq, osq⟩, hw''⟩ := hw'
        subst hw''
        have V3 := Lib.hid (V.out.then0 (Upd.regrown w2 dq osq))
        clear r0 r1 r2 r3 r4 r5 r6 r7 r8 c0 c1 c2 c3 c4 c5 c6 c7 c8
        generalize grow (redrawn w2 dq) osq = w3 at V3 ⊢
        obtain ⟨c0, c1, c2, c3, c4, c5, c6, c7, c8⟩ := HS.out _ V3.out
        go_wp2_with fail
        go_ret2
        exact ⟨ret_int2 HV.out.1.symm HV.out.2.symm, U.out.then0 V3.out⟩
      · have HV0 : Hid (shE h l r lo ro rh d o k = 0) := HE.out.trans (if_neg (by omega))
        have HV : Hid (shR h l r lo ro rh d o k = nearF (1000 * B * P) (A * Q) ∧ shE h l r lo ro rh d o k = 0) := ⟨HR.out HV0.out, HV0.out⟩
        have m1 := Int.mul_le_mul (a := B) (b := P) (c := 600) (d := 4132) (by omega) (by omega) (by omega) (by omega)
        have m2 := mul_pos1 (x := B) (y := P) (by omega) (by omega)
        have m3 := Int.mul_le_mul (a := A) (b := Q) (c := 600) (d := 4132) (by omega) (by omega) (by omega) (by omega)
        have m4 := mul_pos1 (x := A) (y := Q) (by omega) (by omega)
        have hq0 : IntKind.i64.wrap (1000 * B) = 1000 * B := IntWalk.i64_in _ (by omega)
        have m5 : 1000 * B * P = 1000 * (B * P) := Int.mul_assoc _ _ _
        have hq1 : IntKind.i64.wrap (1000 * B * P) = 1000 * B * P := IntWalk.i64_in _ (by omega)
        have hq2 : IntKind.i64.wrap (A * Q) = A * Q := IntWalk.i64_in _ (by omega)
        have HN1 : Hid (-2000000000000000000 ≤ 1000 * B * P ∧ 1000 * B * P ≤ 2000000000000000000) := ⟨by omega, by omega⟩
        have HN2 : Hid (1 ≤ A * Q ∧ A * Q ≤ 2000000000000000000) := ⟨by omega, by omega⟩
        clear m1 m2 m3 m4 m5
        go_enter Try.func31, Try.ntmps31
        go_wp2_with fail
        try rw [hw1]
        clear hw1 hX
        refine (iIsWheel_c _ _ _ _ _ _ _ _ _ _).mono ?_
        rintro e w2 ⟨rfl, hu⟩
        have V := Lib.hid hu
        rw [q]
        clear hu c0 c1 c2 c3 c4 c5 c6 c7 c8
        obtain ⟨c0, c1, c2, c3, c4, c5, c6, c7, c8⟩ := HS.out _ V.out
        clear q
        go_wp2_with fail
        have r0 := cell_regrown c0
        have r1 := cell_regrown c1
        have r2 := cell_regrown c2
        have r3 := cell_regrown c3
        have r4 := cell_regrown c4
        have r5 := cell_regrown c5
        have r6 := cell_regrown c6
        have r7 := cell_regrown c7
        have r8 := cell_regrown c8
        refine wp_region_quiet_below (by kernel_rfl) (by kernel_rfl) ?_
        repeat (go_big_quiet_step (first | (go_at_call 58; exact Calls.regrown_of ((HO.out _ _).mono fun _ _ hh => ⟨by have h0 := hh.1; simp only [cond_true, cond_false] at h0; exact h0, hh.2.below⟩))))
        refine wpQuiet_nil ?_
        intro _ hw'
        obtain ⟨⟨dq, osq⟩, hw''⟩ := hw'
        subst hw''
        have V3 := Lib.hid (V.out.then0 (Upd.regrown w2 dq osq))
        clear r0 r1 r2 r3 r4 r5 r6 r7 r8 c0 c1 c2 c3 c4 c5 c6 c7 c8
        generalize grow (redrawn w2 dq) osq = w3 at V3 ⊢
        obtain ⟨c0, c1, c2, c3, c4, c5, c6, c7, c8⟩ := HS.out _ V3.out
        go_wp2_with fail
        have r0 := cell_regrown c0
        have r1 := cell_regrown c1
        have r2 := cell_regrown c2
        have r3 := cell_regrown c3
        have r4 := cell_regrown c4
        have r5 := cell_regrown c5
        have r6 := cell_regrown c6
        have r7 := cell_regrown c7
        have r8 := cell_regrown c8
        refine wp_region_quiet_below (by kernel_rfl) (by kernel_rfl) ?_
        repeat (go_big_quiet_step (first | (go_at_call 47; exact Calls.regrown_of ((HL.out _ _).mono fun _ _ hh => ⟨by have h0 := hh.1; simp only [cond_true, cond_false] at h0; exact h0, hh.2.below⟩)) | (go_at_call 59; exact Calls.regrown_of ((nearest_c _ _ _ HN1.out HN2.out).mono fun _ _ hh => ⟨hh.1, hh.2 ▸ (Upd.refl _).below⟩))))
        refine wpQuiet_nil ?_
        intro _ hw'
        obtain ⟨⟨dq, osq⟩, hw''⟩ := hw'
        subst hw''
        have V4 := Lib.hid (V3.out.then0 (Upd.regrown w3 dq osq))
        clear r0 r1 r2 r3 r4 r5 r6 r7 r8 c0 c1 c2 c3 c4 c5 c6 c7 c8
        generalize grow (redrawn w3 dq) osq = w4 at V4 ⊢
        obtain ⟨c0, c1, c2, c3, c4, c5, c6, c7, c8⟩ := HS.out _ V4.out
        go_wp2_with fail
        go_ret2
        exact ⟨ret_int2 HV.out.1.symm HV.out.2.symm, U.out.then0 V4.out⟩
set_option maxRecDepth 20000 in
set_option maxHeartbeats 3200000 in
theorem sTensionShare_c (h l r lo ro rh d o k : Int) (w : World) : Calls Try.prog 32 #[.agg #[.int .i64 h, .int .i64 l, .int .i64 r, .int .i64 lo, .int .i64 ro, .int .i64 rh, .int .i64 d, .int .i64 o, .int .i64 k]] w fun e w' => e = .returned (.tuple #[.int .i64 (shR h l r lo ro rh d o k), .int .i64 (shE h l r lo ro rh d o k)]) ∧ Upd [] w w' := by
  have b0 := Blk.new w [h, l, r, lo, ro, rh, d, o, k] 34
  have U : Hid (Upd [] w (w.alloc (.cells #[.int .i64 h, .int .i64 l, .int .i64 r, .int .i64 lo, .int .i64 ro, .int .i64 rh, .int .i64 d, .int .i64 o, .int .i64 k] 34))) := (Upd.refl w).alloc _
  obtain ⟨X, hX⟩ : ∃ X, w.heap.size = X := ⟨_, rfl⟩
  obtain ⟨w1, hw1⟩ : ∃ W, w.alloc (.cells #[.int .i64 h, .int .i64 l, .int .i64 r, .int .i64 lo, .int .i64 ro, .int .i64 rh, .int .i64 d, .int .i64 o, .int .i64 k] 34) = W := ⟨_, rfl⟩
  have b1 : Blk w1 X [h, l, r, lo, ro, rh, d, o, k] 34 := by rw [← hw1, ← hX]; exact b0
  have HS : Hid (∀ w', Upd [] w1 w' → WhC w' X h l r lo ro rh d o k) := fun w' u => (b1.kept0 u).whC
  have BX := Lib.hid b1
  have HX : Hid (w.heap.size ≤ X) := by show _ ≤ _; omega
  rw [hw1] at U
  obtain ⟨c0, c1, c2, c3, c4, c5, c6, c7, c8⟩ := HS.out w1 (Upd.refl _)
  clear b0 b1
  clear BX HX
  cases q : whB h l r lo ro rh d o k
  · have HE : Hid (shE h l r lo ro rh d o k = 1) := by show _ = _; simp [shE, q]
    have HV : Hid (shR h l r lo ro rh d o k = 0 ∧ shE h l r lo ro rh d o k = 1) := by refine ⟨?_, HE.out⟩; unfold shR; rw [HE.out]; rfl
    go_enter Try.func32, Try.ntmps32
    go_wp2_with fail
    try rw [hw1]
    clear hw1 hX
    refine (sIsWheel_c _ _ _ _ _ _ _ _ _ _).mono ?_
    rintro e w2 ⟨rfl, hu⟩
    have V := Lib.hid hu
    rw [q]
    clear hu c0 c1 c2 c3 c4 c5 c6 c7 c8
    obtain ⟨c0, c1, c2, c3, c4, c5, c6, c7, c8⟩ := HS.out _ V.out
    go_wp2_with fail
    go_ret2
    exact ⟨ret_int2 HV.out.1.symm HV.out.2.symm, U.out.then0 V.out⟩
  · have HQ := Lib.hid q
    obtain ⟨-, -, -, h4, h5, -, h7, -⟩ := whB_t q
    have hA := offV_bd false h4 h5 h7
    have hB := offV_bd true h4 h5 h7
    have hP := (lenV_in false q).2
    have hQ := (lenV_in true q).2
    obtain ⟨A, AE⟩ : ∃ x, Hid (offV lo ro o false = x) := ⟨_, rfl⟩
    obtain ⟨B, BE⟩ : ∃ x, Hid (offV lo ro o true = x) := ⟨_, rfl⟩
    obtain ⟨P, PE⟩ : ∃ x, Hid (lenV h l r lo ro rh d o k false = x) := ⟨_, rfl⟩
    obtain ⟨Q, QE⟩ : ∃ x, Hid (lenV h l r lo ro rh d o k true = x) := ⟨_, rfl⟩
    rw [AE.out] at hA
    rw [BE.out] at hB
    rw [PE.out] at hP
    rw [QE.out] at hQ
    have HO : Hid (∀ (b : Bool) (w : World), Calls Try.prog 60 #[.agg #[.int .i64 h, .int .i64 l, .int .i64 r, .int .i64 lo, .int .i64 ro, .int .i64 rh, .int .i64 d, .int .i64 o, .int .i64 k], .bool b] w fun e w' => e = .returned (.int .i64 (cond b B A)) ∧ Upd [] w w') := fun b w => by
      cases b
      · rw [show cond false B A = offV lo ro o false from AE.out.symm]; exact sOff_c h l r lo ro rh d o k false w q
      · rw [show cond true B A = offV lo ro o true from BE.out.symm]; exact sOff_c h l r lo ro rh d o k true w q
    have HL : Hid (∀ (b : Bool) (w : World), Calls Try.prog 45 #[.agg #[.int .i64 h, .int .i64 l, .int .i64 r, .int .i64 lo, .int .i64 ro, .int .i64 rh, .int .i64 d, .int .i64 o, .int .i64 k], .bool b] w fun e w' => e = .returned (.int .i64 (cond b Q P)) ∧ Upd [] w w') := fun b w => by
      cases b
      · rw [show cond false Q P = lenV h l r lo ro rh d o k false from PE.out.symm]; exact sLen_c h l r lo ro rh d o k false w q
      · rw [show cond true Q P = lenV h l r lo ro rh d o k true from QE.out.symm]; exact sLen_c h l r lo ro rh d o k true w q
    have HE : Hid (shE h l r lo ro rh d o k = if A < 1 ∨ B < 1 then 5 else 0) := by show _ = _; unfold shE; rw [if_pos q, AE.out, BE.out]
    have HR : Hid (shE h l r lo ro rh d o k = 0 → shR h l r lo ro rh d o k = nearF (1000 * B * P) (A * Q)) := fun h0 => by unfold shR; rw [if_pos h0, AE.out, BE.out, PE.out, QE.out]
    clear h4 h5 h7
    by_cases ha : A < 1
    · have HV0 : Hid (shE h l r lo ro rh d o k = 5) := HE.out.trans (if_pos (by omega))
      have HV : Hid (shR h l r lo ro rh d o k = 0 ∧ shE h l r lo ro rh d o k = 5) := by refine ⟨?_, HV0.out⟩; unfold shR; rw [HV0.out]; rfl
      go_enter Try.func32, Try.ntmps32
      go_wp2_with fail
      try rw [hw1]
      clear hw1 hX
      refine (sIsWheel_c _ _ _ _ _ _ _ _ _ _).mono ?_
      rintro e w2 ⟨rfl, hu⟩
      have V := Lib.hid hu
      rw [q]
      clear hu c0 c1 c2 c3 c4 c5 c6 c7 c8
      obtain ⟨c0, c1, c2, c3, c4, c5, c6, c7, c8⟩ := HS.out _ V.out
      clear q
      go_wp2_with fail
      have r0 := cell_regrown c0
      have r1 := cell_regrown c1
      have r2 := cell_regrown c2
      have r3 := cell_regrown c3
      have r4 := cell_regrown c4
      have r5 := cell_regrown c5
      have r6 := cell_regrown c6
      have r7 := cell_regrown c7
      have r8 := cell_regrown c8
      refine wp_region_quiet_below (by kernel_rfl) (by kernel_rfl) ?_
      repeat (go_big_quiet_step (first | (go_at_call 60; exact Calls.regrown_of ((HO.out _ _).mono fun _ _ hh => ⟨by have h0 := hh.1; simp only [cond_true, cond_false] at h0; exact h0, hh.2.below⟩))))
      refine wpQuiet_nil ?_
      intro _ hw'
      obtain ⟨⟨dq, osq⟩, hw''⟩ := hw'
      subst hw''
      have V3 := Lib.hid (V.out.then0 (Upd.regrown w2 dq osq))
      clear r0 r1 r2 r3 r4 r5 r6 r7 r8 c0 c1 c2 c3 c4 c5 c6 c7 c8
      generalize grow (redrawn w2 dq) osq = w3 at V3 ⊢
      obtain ⟨c0, c1, c2, c3, c4, c5, c6, c7, c8⟩ := HS.out _ V3.out
      go_wp2_with fail
      have r0 := cell_regrown c0
      have r1 := cell_regrown c1
      have r2 := cell_regrown c2
      have r3 := cell_regrown c3
      have r4 := cell_regrown c4
      have r5 := cell_regrown c5
      have r6 := cell_regrown c6
      have r7 := cell_regrown c7
      have r8 := cell_regrown c8
      refine wp_region_quiet_below (by kernel_rfl) (by kernel_rfl) ?_
      repeat (go_big_quiet_step (first | (go_at_call 45; exact Calls.regrown_of ((HL.out _ _).mono fun _ _ hh => ⟨by have h0 := hh.1; simp only [cond_true, cond_false] at h0; exact h0, hh.2.below⟩))))
      refine wpQuiet_nil ?_
      intro _ hw'
      obtain ⟨⟨dq, osq⟩, hw''⟩ := hw'
      subst hw''
      have V4 := Lib.hid (V3.out.then0 (Upd.regrown w3 dq osq))
      clear r0 r1 r2 r3 r4 r5 r6 r7 r8 c0 c1 c2 c3 c4 c5 c6 c7 c8
      generalize grow (redrawn w3 dq) osq = w4 at V4 ⊢
      obtain ⟨c0, c1, c2, c3, c4, c5, c6, c7, c8⟩ := HS.out _ V4.out
      go_wp2_with fail
      go_ret2
      exact ⟨ret_int2 HV.out.1.symm HV.out.2.symm, U.out.then0 V4.out⟩
    · by_cases hb : B < 1
      · have HV0 : Hid (shE h l r lo ro rh d o k = 5) := HE.out.trans (if_pos (by omega))
        have HV : Hid (shR h l r lo ro rh d o k = 0 ∧ shE h l r lo ro rh d o k = 5) := by refine ⟨?_, HV0.out⟩; unfold shR; rw [HV0.out]; rfl
        go_enter Try.func32, Try.ntmps32
        go_wp2_with fail
        try rw [hw1]
        clear hw1 hX
        refine (sIsWheel_c _ _ _ _ _ _ _ _ _ _).mono ?_
        rintro e w2 ⟨rfl, hu⟩
        have V := Lib.hid hu
        rw [q]
        clear hu c0 c1 c2 c3 c4 c5 c6 c7 c8
        obtain ⟨c0, c1, c2, c3, c4, c5, c6, c7, c8⟩ := HS.out _ V.out
        clear q
        go_wp2_with fail
        have r0 := cell_regrown c0
        have r1 := cell_regrown c1
        have r2 := cell_regrown c2
        have r3 := cell_regrown c3
        have r4 := cell_regrown c4
        have r5 := cell_regrown c5
        have r6 := cell_regrown c6
        have r7 := cell_regrown c7
        have r8 := cell_regrown c8
        refine wp_region_quiet_below (by kernel_rfl) (by kernel_rfl) ?_
        repeat (go_big_quiet_step (first | (go_at_call 60; exact Calls.regrown_of ((HO.out _ _).mono fun _ _ hh => ⟨by have h0 := hh.1; simp only [cond_true, cond_false] at h0; exact h0, hh.2.below⟩))))
        refine wpQuiet_nil ?_
        intro _ hw'
        obtain ⟨⟨dq, osq⟩, hw''⟩ := hw'
        subst hw''
        have V3 := Lib.hid (V.out.then0 (Upd.regrown w2 dq osq))
        clear r0 r1 r2 r3 r4 r5 r6 r7 r8 c0 c1 c2 c3 c4 c5 c6 c7 c8
        generalize grow (redrawn w2 dq) osq = w3 at V3 ⊢
        obtain ⟨c0, c1, c2, c3, c4, c5, c6, c7, c8⟩ := HS.out _ V3.out
        go_wp2_with fail
        have r0 := cell_regrown c0
        have r1 := cell_regrown c1
        have r2 := cell_regrown c2
        have r3 := cell_regrown c3
        have r4 := cell_regrown c4
        have r5 := cell_regrown c5
        have r6 := cell_regrown c6
        have r7 := cell_regrown c7
        have r8 := cell_regrown c8
        refine wp_region_quiet_below (by kernel_rfl) (by kernel_rfl) ?_
        repeat (go_big_quiet_step (first | (go_at_call 45; exact Calls.regrown_of ((HL.out _ _).mono fun _ _ hh => ⟨by have h0 := hh.1; simp only [cond_true, cond_false] at h0; exact h0, hh.2.below⟩))))
        refine wpQuiet_nil ?_
        intro _ hw'
        obtain ⟨⟨dq, osq⟩, hw''⟩ := hw'
        subst hw''
        have V4 := Lib.hid (V3.out.then0 (Upd.regrown w3 dq osq))
        clear r0 r1 r2 r3 r4 r5 r6 r7 r8 c0 c1 c2 c3 c4 c5 c6 c7 c8
        generalize grow (redrawn w3 dq) osq = w4 at V4 ⊢
        obtain ⟨c0, c1, c2, c3, c4, c5, c6, c7, c8⟩ := HS.out _ V4.out
        go_wp2_with fail
        go_ret2
        exact ⟨ret_int2 HV.out.1.symm HV.out.2.symm, U.out.then0 V4.out⟩
      · have HV0 : Hid (shE h l r lo ro rh d o k = 0) := HE.out.trans (if_neg (by omega))
        have HV : Hid (shR h l r lo ro rh d o k = nearF (1000 * B * P) (A * Q) ∧ shE h l r lo ro rh d o k = 0) := ⟨HR.out HV0.out, HV0.out⟩
        have m1 := Int.mul_le_mul (a := B) (b := P) (c := 600) (d := 4132) (by omega) (by omega) (by omega) (by omega)
        have m2 := mul_pos1 (x := B) (y := P) (by omega) (by omega)
        have m3 := Int.mul_le_mul (a := A) (b := Q) (c := 600) (d := 4132) (by omega) (by omega) (by omega) (by omega)
        have m4 := mul_pos1 (x := A) (y := Q) (by omega) (by omega)
        have hq0 : IntKind.i64.wrap (1000 * B) = 1000 * B := IntWalk.i64_in _ (by omega)
        have m5 : 1000 * B * P = 1000 * (B * P) := Int.mul_assoc _ _ _
        have hq1 : IntKind.i64.wrap (1000 * B * P) = 1000 * B * P := IntWalk.i64_in _ (by omega)
        have hq2 : IntKind.i64.wrap (A * Q) = A * Q := IntWalk.i64_in _ (by omega)
        have HN1 : Hid (-2000000000000000000 ≤ 1000 * B * P ∧ 1000 * B * P ≤ 2000000000000000000) := ⟨by omega, by omega⟩
        have HN2 : Hid (1 ≤ A * Q ∧ A * Q ≤ 2000000000000000000) := ⟨by omega, by omega⟩
        clear m1 m2 m3 m4 m5
        go_enter Try.func32, Try.ntmps32
        go_wp2_with fail
        try rw [hw1]
        clear hw1 hX
        refine (sIsWheel_c _ _ _ _ _ _ _ _ _ _).mono ?_
        rintro e w2 ⟨rfl, hu⟩
        have V := Lib.hid hu
        rw [q]
        clear hu c0 c1 c2 c3 c4 c5 c6 c7 c8
        obtain ⟨c0, c1, c2, c3, c4, c5, c6, c7, c8⟩ := HS.out _ V.out
        clear q
        go_wp2_with fail
        have r0 := cell_regrown c0
        have r1 := cell_regrown c1
        have r2 := cell_regrown c2
        have r3 := cell_regrown c3
        have r4 := cell_regrown c4
        have r5 := cell_regrown c5
        have r6 := cell_regrown c6
        have r7 := cell_regrown c7
        have r8 := cell_regrown c8
        refine wp_region_quiet_below (by kernel_rfl) (by kernel_rfl) ?_
        repeat (go_big_quiet_step (first | (go_at_call 60; exact Calls.regrown_of ((HO.out _ _).mono fun _ _ hh => ⟨by have h0 := hh.1; simp only [cond_true, cond_false] at h0; exact h0, hh.2.below⟩))))
        refine wpQuiet_nil ?_
        intro _ hw'
        obtain ⟨⟨dq, osq⟩, hw''⟩ := hw'
        subst hw''
        have V3 := Lib.hid (V.out.then0 (Upd.regrown w2 dq osq))
        clear r0 r1 r2 r3 r4 r5 r6 r7 r8 c0 c1 c2 c3 c4 c5 c6 c7 c8
        generalize grow (redrawn w2 dq) osq = w3 at V3 ⊢
        obtain ⟨c0, c1, c2, c3, c4, c5, c6, c7, c8⟩ := HS.out _ V3.out
        go_wp2_with fail
        have r0 := cell_regrown c0
        have r1 := cell_regrown c1
        have r2 := cell_regrown c2
        have r3 := cell_regrown c3
        have r4 := cell_regrown c4
        have r5 := cell_regrown c5
        have r6 := cell_regrown c6
        have r7 := cell_regrown c7
        have r8 := cell_regrown c8
        refine wp_region_quiet_below (by kernel_rfl) (by kernel_rfl) ?_
        repeat (go_big_quiet_step (first | (go_at_call 45; exact Calls.regrown_of ((HL.out _ _).mono fun _ _ hh => ⟨by have h0 := hh.1; simp only [cond_true, cond_false] at h0; exact h0, hh.2.below⟩))))
        refine wpQuiet_nil ?_
        intro _ hw'
        obtain ⟨⟨dq, osq⟩, hw''⟩ := hw'
        subst hw''
        have V4 := Lib.hid (V3.out.then0 (Upd.regrown w3 dq osq))
        clear r0 r1 r2 r3 r4 r5 r6 r7 r8 c0 c1 c2 c3 c4 c5 c6 c7 c8
        generalize grow (redrawn w3 dq) osq = w4 at V4 ⊢
        obtain ⟨c0, c1, c2, c3, c4, c5, c6, c7, c8⟩ := HS.out _ V4.out
        go_wp2_with (go_at_call 61; refine (l01Nearest_c _ _ _ HN1.out HN2.out).mono ?_; rintro e w' ⟨rfl, rfl⟩)
        go_ret2
        exact ⟨ret_int2 HV.out.1.symm HV.out.2.symm, U.out.then0 V4.out⟩
end Go.Proofs.Ytbjeaadnanimfaa
