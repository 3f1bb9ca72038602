/- Chapter 5: ChooseSpoke, SpokesFor. -/
import Derived.Test.YtbjeaadnanimfaaStock
import Derived.Lib.QuietBelow
namespace Go.Proofs.Ytbjeaadnanimfaa
open Go.RowKit Go.Sort
set_option linter.unusedVariables false
set_option linter.unusedSimpArgs false
set_option maxHeartbeats 800000 in
theorem iChooseSpoke_c (a : Option Addr) (c : Nat) (xs : List Int) (len : Int) (w : World) (h : IntsAt w a xs) (hl : xs.length ≤ 1048576) :
    Calls Try.prog 8 #[.slice a xs.length c, .int .i64 len] w fun e w' => e = .returned (.tuple #[.int .i64 (choR xs len), .int .i64 (choE xs len)]) ∧ Upd [] w w' := by
  have H := Lib.hid h
  clear h
  cases q1 : stkB xs
  · have HE : Hid (choE xs len = 1) := by show _ = _; simp [choE, q1]
    have HV : Hid (choR xs len = 0 ∧ choE xs len = 1) := by refine ⟨?_, HE.out⟩; unfold choR; rw [HE.out]; rfl
    go_enter Try.func8, Try.ntmps8
    go_wp2_with (first | (go_at_call 37; refine (isStock_c _ _ _ _ H.out hl).mono ?_; rintro e w' ⟨rfl, rfl⟩) | (go_at_call 38; refine (within_c _ _ _ _).mono ?_; rintro e w' ⟨rfl, rfl⟩) | (go_at_call 39; refine (chooseSpoke_c _ _ _ _ _ H.out hl (by omega)).mono ?_; rintro e w' ⟨rfl, rfl⟩))
    go_ret2
    exact ⟨ret_int2 HV.out.1.symm HV.out.2.symm, Upd.refl w⟩
  · cases q2 : inB len 0 5000
    · have HE : Hid (choE xs len = 2) := by show _ = _; simp [choE, q1, q2]
      have HV : Hid (choR xs len = 0 ∧ choE xs len = 2) := by refine ⟨?_, HE.out⟩; unfold choR; rw [HE.out]; rfl
      go_enter Try.func8, Try.ntmps8
      go_wp2_with (first | (go_at_call 37; refine (isStock_c _ _ _ _ H.out hl).mono ?_; rintro e w' ⟨rfl, rfl⟩) | (go_at_call 38; refine (within_c _ _ _ _).mono ?_; rintro e w' ⟨rfl, rfl⟩) | (go_at_call 39; refine (chooseSpoke_c _ _ _ _ _ H.out hl (by omega)).mono ?_; rintro e w' ⟨rfl, rfl⟩))
      go_ret2
      exact ⟨ret_int2 HV.out.1.symm HV.out.2.symm, Upd.refl w⟩
    · have hlb := inB_t q2
      by_cases hc : chF xs len < 0
      · have HE : Hid (choE xs len = 4) := by show _ = _; simp [choE, q1, q2, hc]
        have HV : Hid (choR xs len = 0 ∧ choE xs len = 4) := by refine ⟨?_, HE.out⟩; unfold choR; rw [HE.out]; rfl
        go_enter Try.func8, Try.ntmps8
        go_wp2_with (first | (go_at_call 37; refine (isStock_c _ _ _ _ H.out hl).mono ?_; rintro e w' ⟨rfl, rfl⟩) | (go_at_call 38; refine (within_c _ _ _ _).mono ?_; rintro e w' ⟨rfl, rfl⟩) | (go_at_call 39; refine (chooseSpoke_c _ _ _ _ _ H.out hl (by omega)).mono ?_; rintro e w' ⟨rfl, rfl⟩))
        go_ret2
        exact ⟨ret_int2 HV.out.1.symm HV.out.2.symm, Upd.refl w⟩
      · have HE : Hid (choE xs len = 0) := by show _ = _; simp [choE, q1, q2, hc]
        have HV : Hid (choR xs len = chF xs len ∧ choE xs len = 0) := by refine ⟨?_, HE.out⟩; unfold choR; rw [HE.out]; rfl
        go_enter Try.func8, Try.ntmps8
        go_wp2_with (first | (go_at_call 37; refine (isStock_c _ _ _ _ H.out hl).mono ?_; rintro e w' ⟨rfl, rfl⟩) | (go_at_call 38; refine (within_c _ _ _ _).mono ?_; rintro e w' ⟨rfl, rfl⟩) | (go_at_call 39; refine (chooseSpoke_c _ _ _ _ _ H.out hl (by omega)).mono ?_; rintro e w' ⟨rfl, rfl⟩))
        go_ret2
        exact ⟨ret_int2 HV.out.1.symm HV.out.2.symm, Upd.refl w⟩
set_option maxHeartbeats 800000 in
theorem sChooseSpoke_c (a : Option Addr) (c : Nat) (xs : List Int) (len : Int) (w : World) (h : IntsAt w a xs) (hl : xs.length ≤ 1048576) :
    Calls Try.prog 9 #[.slice a xs.length c, .int .i64 len] w fun e w' => e = .returned (.tuple #[.int .i64 (choR xs len), .int .i64 (choE xs len)]) ∧ Upd [] w w' := by
  have H : Hid (∀ w', Upd [] w w' → IntsAt w' a xs) := fun w' u => h.kept0 u
  clear h
  cases q1 : stkB xs
  · have HE : Hid (choE xs len = 1) := by show _ = _; simp [choE, q1]
    have HV : Hid (choR xs len = 0 ∧ choE xs len = 1) := by refine ⟨?_, HE.out⟩; unfold choR; rw [HE.out]; rfl
    go_enter Try.func9, Try.ntmps9
    go_wp2_with fail
    refine (l05Stock_c a c xs _ (H.out _ (Upd.refl _)) hl).mono ?_
    rintro e w1 ⟨rfl, hu⟩
    have U := Lib.hid hu
    clear hu
    rw [q1]
    clear q1
    go_wp2_with (first | (go_at_call 41; refine (l01In_c _ _ _ _).mono ?_; rintro e w' ⟨rfl, rfl⟩) | (go_at_call 42; refine (l05Choose_c _ _ _ _ _ (H.out _ U.out) hl (by omega)).mono ?_; rintro e w' ⟨rfl, rfl⟩))
    go_ret2
    exact ⟨ret_int2 HV.out.1.symm HV.out.2.symm, U.out⟩
  · cases q2 : inB len 0 5000
    · have HE : Hid (choE xs len = 2) := by show _ = _; simp [choE, q1, q2]
      have HV : Hid (choR xs len = 0 ∧ choE xs len = 2) := by refine ⟨?_, HE.out⟩; unfold choR; rw [HE.out]; rfl
      go_enter Try.func9, Try.ntmps9
      go_wp2_with fail
      refine (l05Stock_c a c xs _ (H.out _ (Upd.refl _)) hl).mono ?_
      rintro e w1 ⟨rfl, hu⟩
      have U := Lib.hid hu
      clear hu
      rw [q1]
      clear q1
      go_wp2_with (first | (go_at_call 41; refine (l01In_c _ _ _ _).mono ?_; rintro e w' ⟨rfl, rfl⟩) | (go_at_call 42; refine (l05Choose_c _ _ _ _ _ (H.out _ U.out) hl (by omega)).mono ?_; rintro e w' ⟨rfl, rfl⟩))
      go_ret2
      exact ⟨ret_int2 HV.out.1.symm HV.out.2.symm, U.out⟩
    · have hlb := inB_t q2
      by_cases hc : chF xs len < 0
      · have HE : Hid (choE xs len = 4) := by show _ = _; simp [choE, q1, q2, hc]
        have HV : Hid (choR xs len = 0 ∧ choE xs len = 4) := by refine ⟨?_, HE.out⟩; unfold choR; rw [HE.out]; rfl
        go_enter Try.func9, Try.ntmps9
        go_wp2_with fail
        refine (l05Stock_c a c xs _ (H.out _ (Upd.refl _)) hl).mono ?_
        rintro e w1 ⟨rfl, hu⟩
        have U := Lib.hid hu
        clear hu
        rw [q1]
        clear q1
        go_wp2_with (first | (go_at_call 41; refine (l01In_c _ _ _ _).mono ?_; rintro e w' ⟨rfl, rfl⟩) | (go_at_call 42; refine (l05Choose_c _ _ _ _ _ (H.out _ U.out) hl (by omega)).mono ?_; rintro e w' ⟨rfl, rfl⟩))
        go_ret2
        exact ⟨ret_int2 HV.out.1.symm HV.out.2.symm, U.out⟩
      · have HE : Hid (choE xs len = 0) := by show _ = _; simp [choE, q1, q2, hc]
        have HV : Hid (choR xs len = chF xs len ∧ choE xs len = 0) := by refine ⟨?_, HE.out⟩; unfold choR; rw [HE.out]; rfl
        go_enter Try.func9, Try.ntmps9
        go_wp2_with fail
        refine (l05Stock_c a c xs _ (H.out _ (Upd.refl _)) hl).mono ?_
        rintro e w1 ⟨rfl, hu⟩
        have U := Lib.hid hu
        clear hu
        rw [q1]
        clear q1
        go_wp2_with (first | (go_at_call 41; refine (l01In_c _ _ _ _).mono ?_; rintro e w' ⟨rfl, rfl⟩) | (go_at_call 42; refine (l05Choose_c _ _ _ _ _ (H.out _ U.out) hl (by omega)).mono ?_; rintro e w' ⟨rfl, rfl⟩))
        go_ret2
        exact ⟨ret_int2 HV.out.1.symm HV.out.2.symm, U.out⟩
set_option maxRecDepth 20000 in
set_option maxHeartbeats 3200000 in
theorem iSpokesFor_c (h l r lo ro rh d o k : Int) (a : Option Addr) (c : Nat) (xs : List Int) (w : World) (hi : IntsAt w a xs) (hl : xs.length ≤ 1048576) : Calls Try.prog 11 #[.agg #[.int .i64 h, .int .i64 l, .int .i64 r, .int .i64 lo, .int .i64 ro, .int .i64 rh, .int .i64 d, .int .i64 o, .int .i64 k], .slice a xs.length c] w fun e w' => e = .returned (.tuple #[.int .i64 (sfA h l r lo ro rh d o k xs false), .int .i64 (sfA h l r lo ro rh d o k xs true), .int .i64 (sfE h l r lo ro rh d o k xs)]) ∧ Upd [] w w' := by
  have HI0 : Hid (∀ w', Upd [] w w' → IntsAt w' a xs) := fun w' u => hi.kept0 u
  clear hi
  have b0 := Blk.new w [h, l, r, lo, ro, rh, d, o, k] 34
  have U : Hid (Upd [] w (w.alloc (.cells #[.int .i64 h, .int .i64 l, .int .i64 r, .int .i64 lo, .int .i64 ro, .int .i64 rh, .int .i64 d, .int .i64 o, .int .i64 k] 34))) := (Upd.refl w).alloc _
  obtain ⟨X, hX⟩ : ∃ X, w.heap.size = X := ⟨_, rfl⟩
  obtain ⟨w1, hw1⟩ : ∃ W, w.alloc (.cells #[.int .i64 h, .int .i64 l, .int .i64 r, .int .i64 lo, .int .i64 ro, .int .i64 rh, .int .i64 d, .int .i64 o, .int .i64 k] 34) = W := ⟨_, rfl⟩
  have b1 : Blk w1 X [h, l, r, lo, ro, rh, d, o, k] 34 := by rw [← hw1, ← hX]; exact b0
  have HS : Hid (∀ w', Upd [] w1 w' → WhC w' X h l r lo ro rh d o k) := fun w' u => (b1.kept0 u).whC
  have BX := Lib.hid b1
  have HX : Hid (w.heap.size ≤ X) := by show _ ≤ _; omega
  rw [hw1] at U
  obtain ⟨c0, c1, c2, c3, c4, c5, c6, c7, c8⟩ := HS.out w1 (Upd.refl _)
  clear b0 b1
  have HI : Hid (∀ w', Upd [] w1 w' → IntsAt w' a xs) := fun w' u => HI0.out w' (U.out.then0 u)
  clear BX HX HI0
  cases q : whB h l r lo ro rh d o k
  · have HE : Hid (sfE h l r lo ro rh d o k xs = 1) := by show _ = _; simp [sfE, q]
    have HV : Hid (∀ b, sfA h l r lo ro rh d o k xs b = 0) := fun b => by unfold sfA; rw [HE.out]; rfl
    go_enter Try.func11, Try.ntmps11
    go_wp2_with fail
    try rw [hw1]
    clear hw1 hX
    refine (iIsWheel_c _ _ _ _ _ _ _ _ _ _).mono ?_
    rintro e w2 ⟨rfl, hu⟩
    have V := Lib.hid hu
    rw [q]
    clear hu c0 c1 c2 c3 c4 c5 c6 c7 c8
    obtain ⟨c0, c1, c2, c3, c4, c5, c6, c7, c8⟩ := HS.out _ V.out
    go_wp2_with fail
    go_ret3
    exact ⟨ret_int3 (HV.out _).symm (HV.out _).symm HE.out.symm, U.out.then0 V.out⟩
  · cases q1 : stkB xs
    · have HE : Hid (sfE h l r lo ro rh d o k xs = 1) := by show _ = _; simp [sfE, q, q1]
      have HV : Hid (∀ b, sfA h l r lo ro rh d o k xs b = 0) := fun b => by unfold sfA; rw [HE.out]; rfl
      go_enter Try.func11, Try.ntmps11
      go_wp2_with fail
      try rw [hw1]
      clear hw1 hX
      refine (iIsWheel_c _ _ _ _ _ _ _ _ _ _).mono ?_
      rintro e w2 ⟨rfl, hu⟩
      have V := Lib.hid hu
      rw [q]
      clear hu c0 c1 c2 c3 c4 c5 c6 c7 c8
      obtain ⟨c0, c1, c2, c3, c4, c5, c6, c7, c8⟩ := HS.out _ V.out
      clear q
      go_wp2_with (go_at_call 37; refine (isStock_c _ _ _ _ (HI.out _ V.out) hl).mono ?_; rintro e w' ⟨rfl, rfl⟩)
      go_ret3
      exact ⟨ret_int3 (HV.out _).symm (HV.out _).symm HE.out.symm, U.out.then0 V.out⟩
    · have hP := (lenV_in false q).2
      have hQ := (lenV_in true q).2
      obtain ⟨P, PE⟩ : ∃ x, Hid (lenV h l r lo ro rh d o k false = x) := ⟨_, rfl⟩
      obtain ⟨Q, QE⟩ : ∃ x, Hid (lenV h l r lo ro rh d o k true = x) := ⟨_, rfl⟩
      rw [PE.out] at hP
      rw [QE.out] at hQ
      have HL : Hid (∀ (b : Bool) (w : World), Calls Try.prog 47 #[.agg #[.int .i64 h, .int .i64 l, .int .i64 r, .int .i64 lo, .int .i64 ro, .int .i64 rh, .int .i64 d, .int .i64 o, .int .i64 k], .bool b] w fun e w' => e = .returned (.int .i64 (cond b Q P)) ∧ Upd [] w w') := fun b w => by
        cases b
        · rw [show cond false Q P = lenV h l r lo ro rh d o k false from PE.out.symm]; exact iLen_c h l r lo ro rh d o k false w q
        · rw [show cond true Q P = lenV h l r lo ro rh d o k true from QE.out.symm]; exact iLen_c h l r lo ro rh d o k true w q
      have HE : Hid (sfE h l r lo ro rh d o k xs = if chF xs P < 0 ∨ chF xs Q < 0 then 4 else 0) := by show _ = _; unfold sfE; rw [if_pos q, if_pos q1, PE.out, QE.out]
      have HR : Hid (sfE h l r lo ro rh d o k xs = 0 → sfA h l r lo ro rh d o k xs false = chF xs P ∧ sfA h l r lo ro rh d o k xs true = chF xs Q) := fun h0 => by refine ⟨(if_pos h0).trans ?_, (if_pos h0).trans ?_⟩ <;> simp only [PE.out, QE.out]
      have HP := Lib.hid hP
      have HQ := Lib.hid hQ
      clear hP hQ
      by_cases ha : chF xs P < 0
      · have HV0 : Hid (sfE h l r lo ro rh d o k xs = 4) := HE.out.trans (if_pos (by omega))
        have HV : Hid (∀ b, sfA h l r lo ro rh d o k xs b = 0) := fun b => by unfold sfA; rw [HV0.out]; rfl
        go_enter Try.func11, Try.ntmps11
        go_wp2_with fail
        try rw [hw1]
        clear hw1 hX
        refine (iIsWheel_c _ _ _ _ _ _ _ _ _ _).mono ?_
        rintro e w2 ⟨rfl, hu⟩
        have V := Lib.hid hu
        rw [q]
        clear hu c0 c1 c2 c3 c4 c5 c6 c7 c8
        obtain ⟨c0, c1, c2, c3, c4, c5, c6, c7, c8⟩ := HS.out _ V.out
        clear q
        go_wp2_with (go_at_call 37; refine (isStock_c _ _ _ _ (HI.out _ V.out) hl).mono ?_; rintro e w' ⟨rfl, rfl⟩)
        clear q1
        have HCH : Hid (∀ (len : Int), (len = P ∨ len = Q) → ∀ (dd : Nat) (oo : Array Obj), Calls Try.prog 39 #[.slice a xs.length c, .int .i64 len] (grow (redrawn w2 dd) oo) fun e w' => e = .returned (.int .i64 (chF xs len)) ∧ Below (grow (redrawn w2 dd) oo).heap.size (grow (redrawn w2 dd) oo) w') := fun len hlen dd oo =>
          (chooseSpoke_c a c xs len _ (HI.out _ (V.out.then0 (Upd.regrown w2 dd oo))) hl (by have := HP.out; have := HQ.out; omega)).mono fun _ _ hh => ⟨hh.1, hh.2 ▸ (Upd.refl _).below⟩
        have r0 := cell_regrown c0
        have r1 := cell_regrown c1
        have r2 := cell_regrown c2
        have r3 := cell_regrown c3
        have r4 := cell_regrown c4
        have r5 := cell_regrown c5
        have r6 := cell_regrown c6
        have r7 := cell_regrown c7
        have r8 := cell_regrown c8
        refine wp_region_quiet_below (by kernel_rfl) (by kernel_rfl) ?_
        repeat (go_big_quiet_step (first | (go_at_call 47; exact Calls.regrown_of ((HL.out _ _).mono fun _ _ hh => ⟨by have h0 := hh.1; simp only [cond_true, cond_false] at h0; exact h0, hh.2.below⟩)) | (go_at_call 39; exact Calls.regrown_of (HCH.out _ (by first | exact .inl rfl | exact .inr rfl) _ _))))
        refine wpQuiet_nil ?_
        intro _ hw'
        obtain ⟨⟨dq, osq⟩, hw''⟩ := hw'
        subst hw''
        have V3 := Lib.hid (V.out.then0 (Upd.regrown w2 dq osq))
        clear r0 r1 r2 r3 r4 r5 r6 r7 r8 c0 c1 c2 c3 c4 c5 c6 c7 c8
        generalize grow (redrawn w2 dq) osq = w4 at V3 ⊢
        obtain ⟨c0, c1, c2, c3, c4, c5, c6, c7, c8⟩ := HS.out _ V3.out
        go_wp2_with fail
        go_ret3
        exact ⟨ret_int3 (HV.out _).symm (HV.out _).symm HV0.out.symm, U.out.then0 V3.out⟩
      · by_cases hb : chF xs Q < 0
        · have HV0 : Hid (sfE h l r lo ro rh d o k xs = 4) := HE.out.trans (if_pos (by omega))
          have HV : Hid (∀ b, sfA h l r lo ro rh d o k xs b = 0) := fun b => by unfold sfA; rw [HV0.out]; rfl
          go_enter Try.func11, Try.ntmps11
          go_wp2_with fail
          try rw [hw1]
          clear hw1 hX
          refine (iIsWheel_c _ _ _ _ _ _ _ _ _ _).mono ?_
          rintro e w2 ⟨rfl, hu⟩
          have V := Lib.hid hu
          rw [q]
          clear hu c0 c1 c2 c3 c4 c5 c6 c7 c8
          obtain ⟨c0, c1, c2, c3, c4, c5, c6, c7, c8⟩ := HS.out _ V.out
          clear q
          go_wp2_with (go_at_call 37; refine (isStock_c _ _ _ _ (HI.out _ V.out) hl).mono ?_; rintro e w' ⟨rfl, rfl⟩)
          clear q1
          have HCH : Hid (∀ (len : Int), (len = P ∨ len = Q) → ∀ (dd : Nat) (oo : Array Obj), Calls Try.prog 39 #[.slice a xs.length c, .int .i64 len] (grow (redrawn w2 dd) oo) fun e w' => e = .returned (.int .i64 (chF xs len)) ∧ Below (grow (redrawn w2 dd) oo).heap.size (grow (redrawn w2 dd) oo) w') := fun len hlen dd oo =>
            (chooseSpoke_c a c xs len _ (HI.out _ (V.out.then0 (Upd.regrown w2 dd oo))) hl (by have := HP.out; have := HQ.out; omega)).mono fun _ _ hh => ⟨hh.1, hh.2 ▸ (Upd.refl _).below⟩
          have r0 := cell_regrown c0
          have r1 := cell_regrown c1
          have r2 := cell_regrown c2
          have r3 := cell_regrown c3
          have r4 := cell_regrown c4
          have r5 := cell_regrown c5
          have r6 := cell_regrown c6
          have r7 := cell_regrown c7
          have r8 := cell_regrown c8
          refine wp_region_quiet_below (by kernel_rfl) (by kernel_rfl) ?_
          repeat (go_big_quiet_step (first | (go_at_call 47; exact Calls.regrown_of ((HL.out _ _).mono fun _ _ hh => ⟨by have h0 := hh.1; simp only [cond_true, cond_false] at h0; exact h0, hh.2.below⟩)) | (go_at_call 39; exact Calls.regrown_of (HCH.out _ (by first | exact .inl rfl | exact .inr rfl) _ _))))
          refine wpQuiet_nil ?_
          intro _ hw'
          obtain ⟨⟨dq, osq⟩, hw''⟩ := hw'
          subst hw''
          have V3 := Lib.hid (V.out.then0 (Upd.regrown w2 dq osq))
          clear r0 r1 r2 r3 r4 r5 r6 r7 r8 c0 c1 c2 c3 c4 c5 c6 c7 c8
          generalize grow (redrawn w2 dq) osq = w4 at V3 ⊢
          obtain ⟨c0, c1, c2, c3, c4, c5, c6, c7, c8⟩ := HS.out _ V3.out
          go_wp2_with fail
          go_ret3
          exact ⟨ret_int3 (HV.out _).symm (HV.out _).symm HV0.out.symm, U.out.then0 V3.out⟩
        · have HV0 : Hid (sfE h l r lo ro rh d o k xs = 0) := HE.out.trans (if_neg (by omega))
          have HV := Lib.hid (HR.out HV0.out)
          go_enter Try.func11, Try.ntmps11
          go_wp2_with fail
          try rw [hw1]
          clear hw1 hX
          refine (iIsWheel_c _ _ _ _ _ _ _ _ _ _).mono ?_
          rintro e w2 ⟨rfl, hu⟩
          have V := Lib.hid hu
          rw [q]
          clear hu c0 c1 c2 c3 c4 c5 c6 c7 c8
          obtain ⟨c0, c1, c2, c3, c4, c5, c6, c7, c8⟩ := HS.out _ V.out
          clear q
          go_wp2_with (go_at_call 37; refine (isStock_c _ _ _ _ (HI.out _ V.out) hl).mono ?_; rintro e w' ⟨rfl, rfl⟩)
          clear q1
          have HCH : Hid (∀ (len : Int), (len = P ∨ len = Q) → ∀ (dd : Nat) (oo : Array Obj), Calls Try.prog 39 #[.slice a xs.length c, .int .i64 len] (grow (redrawn w2 dd) oo) fun e w' => e = .returned (.int .i64 (chF xs len)) ∧ Below (grow (redrawn w2 dd) oo).heap.size (grow (redrawn w2 dd) oo) w') := fun len hlen dd oo =>
            (chooseSpoke_c a c xs len _ (HI.out _ (V.out.then0 (Upd.regrown w2 dd oo))) hl (by have := HP.out; have := HQ.out; omega)).mono fun _ _ hh => ⟨hh.1, hh.2 ▸ (Upd.refl _).below⟩
          have r0 := cell_regrown c0
          have r1 := cell_regrown c1
          have r2 := cell_regrown c2
          have r3 := cell_regrown c3
          have r4 := cell_regrown c4
          have r5 := cell_regrown c5
          have r6 := cell_regrown c6
          have r7 := cell_regrown c7
          have r8 := cell_regrown c8
          refine wp_region_quiet_below (by kernel_rfl) (by kernel_rfl) ?_
          repeat (go_big_quiet_step (first | (go_at_call 47; exact Calls.regrown_of ((HL.out _ _).mono fun _ _ hh => ⟨by have h0 := hh.1; simp only [cond_true, cond_false] at h0; exact h0, hh.2.below⟩)) | (go_at_call 39; exact Calls.regrown_of (HCH.out _ (by first | exact .inl rfl | exact .inr rfl) _ _))))
          refine wpQuiet_nil ?_
          intro _ hw'
          obtain ⟨⟨dq, osq⟩, hw''⟩ := hw'
          subst hw''
          have V3 := Lib.hid (V.out.then0 (Upd.regrown w2 dq osq))
          clear r0 r1 r2 r3 r4 r5 r6 r7 r8 c0 c1 c2 c3 c4 c5 c6 c7 c8
          generalize grow (redrawn w2 dq) osq = w4 at V3 ⊢
          obtain ⟨c0, c1, c2, c3, c4, c5, c6, c7, c8⟩ := HS.out _ V3.out
          go_wp2_with fail
          go_ret3
          exact ⟨ret_int3 HV.out.1.symm HV.out.2.symm HV0.out.symm, U.out.then0 V3.out⟩
set_option maxRecDepth 20000 in
set_option maxHeartbeats 3200000 in
theorem sSpokesFor_c (h l r lo ro rh d o k : Int) (a : Option Addr) (c : Nat) (xs : List Int) (w : World) (hi : IntsAt w a xs) (hl : xs.length ≤ 1048576) : Calls Try.prog 12 #[.agg #[.int .i64 h, .int .i64 l, .int .i64 r, .int .i64 lo, .int .i64 ro, .int .i64 rh, .int .i64 d, .int .i64 o, .int .i64 k], .slice a xs.length c] w fun e w' => e = .returned (.tuple #[.int .i64 (sfA h l r lo ro rh d o k xs false), .int .i64 (sfA h l r lo ro rh d o k xs true), .int .i64 (sfE h l r lo ro rh d o k xs)]) ∧ Upd [] w w' := by
  have HI0 : Hid (∀ w', Upd [] w w' → IntsAt w' a xs) := fun w' u => hi.kept0 u
  clear hi
  have b0 := Blk.new w [h, l, r, lo, ro, rh, d, o, k] 34
  have U : Hid (Upd [] w (w.alloc (.cells #[.int .i64 h, .int .i64 l, .int .i64 r, .int .i64 lo, .int .i64 ro, .int .i64 rh, .int .i64 d, .int .i64 o, .int .i64 k] 34))) := (Upd.refl w).alloc _
  obtain ⟨X, hX⟩ : ∃ X, w.heap.size = X := ⟨_, rfl⟩
  obtain ⟨w1, hw1⟩ : ∃ W, w.alloc (.cells #[.int .i64 h, .int .i64 l, .int .i64 r, .int .i64 lo, .int .i64 ro, .int .i64 rh, .int .i64 d, .int .i64 o, .int .i64 k] 34) = W := ⟨_, rfl⟩
  have b1 : Blk w1 X [h, l, r, lo, ro, rh, d, o, k] 34 := by rw [← hw1, ← hX]; exact b0
  have HS : Hid (∀ w', Upd [] w1 w' → WhC w' X h l r lo ro rh d o k) := fun w' u => (b1.kept0 u).whC
  have BX := Lib.hid b1
  have HX : Hid (w.heap.size ≤ X) := by show _ ≤ _; omega
  rw [hw1] at U
  obtain ⟨c0, c1, c2, c3, c4, c5, c6, c7, c8⟩ := HS.out w1 (Upd.refl _)
  clear b0 b1
  have HI : Hid (∀ w', Upd [] w1 w' → IntsAt w' a xs) := fun w' u => HI0.out w' (U.out.then0 u)
  clear BX HX HI0
  cases q : whB h l r lo ro rh d o k
  · have HE : Hid (sfE h l r lo ro rh d o k xs = 1) := by show _ = _; simp [sfE, q]
    have HV : Hid (∀ b, sfA h l r lo ro rh d o k xs b = 0) := fun b => by unfold sfA; rw [HE.out]; rfl
    go_enter Try.func12, Try.ntmps12
    go_wp2_with fail
    try rw [hw1]
    clear hw1 hX
    refine (sIsWheel_c _ _ _ _ _ _ _ _ _ _).mono ?_
    rintro e w2 ⟨rfl, hu⟩
    have V := Lib.hid hu
    rw [q]
    clear hu c0 c1 c2 c3 c4 c5 c6 c7 c8
    obtain ⟨c0, c1, c2, c3, c4, c5, c6, c7, c8⟩ := HS.out _ V.out
    go_wp2_with fail
    go_ret3
    exact ⟨ret_int3 (HV.out _).symm (HV.out _).symm HE.out.symm, U.out.then0 V.out⟩
  · cases q1 : stkB xs
    · have HE : Hid (sfE h l r lo ro rh d o k xs = 1) := by show _ = _; simp [sfE, q, q1]
      have HV : Hid (∀ b, sfA h l r lo ro rh d o k xs b = 0) := fun b => by unfold sfA; rw [HE.out]; rfl
      go_enter Try.func12, Try.ntmps12
      go_wp2_with fail
      try rw [hw1]
      clear hw1 hX
      refine (sIsWheel_c _ _ _ _ _ _ _ _ _ _).mono ?_
      rintro e w2 ⟨rfl, hu⟩
      have V := Lib.hid hu
      rw [q]
      clear hu c0 c1 c2 c3 c4 c5 c6 c7 c8
      obtain ⟨c0, c1, c2, c3, c4, c5, c6, c7, c8⟩ := HS.out _ V.out
      clear q
      go_wp2_with fail
      refine (l05Stock_c a c xs _ (HI.out _ V.out) hl).mono ?_
      rintro e w3 ⟨rfl, hu⟩
      replace V := Lib.hid (V.out.then0 hu)
      rw [q1]
      clear hu q1 c0 c1 c2 c3 c4 c5 c6 c7 c8
      obtain ⟨c0, c1, c2, c3, c4, c5, c6, c7, c8⟩ := HS.out _ V.out
      go_wp2_with fail
      go_ret3
      exact ⟨ret_int3 (HV.out _).symm (HV.out _).symm HE.out.symm, U.out.then0 V.out⟩
    · have hP := (lenV_in false q).2
      have hQ := (lenV_in true q).2
      obtain ⟨P, PE⟩ : ∃ x, Hid (lenV h l r lo ro rh d o k false = x) := ⟨_, rfl⟩
      obtain ⟨Q, QE⟩ : ∃ x, Hid (lenV h l r lo ro rh d o k true = x) := ⟨_, rfl⟩
      rw [PE.out] at hP
      rw [QE.out] at hQ
      have HL : Hid (∀ (b : Bool) (w : World), Calls Try.prog 45 #[.agg #[.int .i64 h, .int .i64 l, .int .i64 r, .int .i64 lo, .int .i64 ro, .int .i64 rh, .int .i64 d, .int .i64 o, .int .i64 k], .bool b] w fun e w' => e = .returned (.int .i64 (cond b Q P)) ∧ Upd [] w w') := fun b w => by
        cases b
        · rw [show cond false Q P = lenV h l r lo ro rh d o k false from PE.out.symm]; exact sLen_c h l r lo ro rh d o k false w q
        · rw [show cond true Q P = lenV h l r lo ro rh d o k true from QE.out.symm]; exact sLen_c h l r lo ro rh d o k true w q
      have HE : Hid (sfE h l r lo ro rh d o k xs = if chF xs P < 0 ∨ chF xs Q < 0 then 4 else 0) := by show _ = _; unfold sfE; rw [if_pos q, if_pos q1, PE.out, QE.out]
      have HR : Hid (sfE h l r lo ro rh d o k xs = 0 → sfA h l r lo ro rh d o k xs false = chF xs P ∧ sfA h l r lo ro rh d o k xs true = chF xs Q) := fun h0 => by refine ⟨(if_pos h0).trans ?_, (if_pos h0).trans ?_⟩ <;> simp only [PE.out, QE.out]
      have HP := Lib.hid hP
      have HQ := Lib.hid hQ
      clear hP hQ
      by_cases ha : chF xs P < 0
      · have HV0 : Hid (sfE h l r lo ro rh d o k xs = 4) := HE.out.trans (if_pos (by omega))
        have HV : Hid (∀ b, sfA h l r lo ro rh d o k xs b = 0) := fun b => by unfold sfA; rw [HV0.out]; rfl
        go_enter Try.func12, Try.ntmps12
        go_wp2_with fail
        try rw [hw1]
        clear hw1 hX
        refine (sIsWheel_c _ _ _ _ _ _ _ _ _ _).mono ?_
        rintro e w2 ⟨rfl, hu⟩
        have V := Lib.hid hu
        rw [q]
        clear hu c0 c1 c2 c3 c4 c5 c6 c7 c8
        obtain ⟨c0, c1, c2, c3, c4, c5, c6, c7, c8⟩ := HS.out _ V.out
        clear q
        go_wp2_with fail
        refine (l05Stock_c a c xs _ (HI.out _ V.out) hl).mono ?_
        rintro e w3 ⟨rfl, hu⟩
        replace V := Lib.hid (V.out.then0 hu)
        rw [q1]
        clear hu q1 c0 c1 c2 c3 c4 c5 c6 c7 c8
        obtain ⟨c0, c1, c2, c3, c4, c5, c6, c7, c8⟩ := HS.out _ V.out
        go_wp2_with fail
        have r0 := cell_regrown c0
        have r1 := cell_regrown c1
        have r2 := cell_regrown c2
        have r3 := cell_regrown c3
        have r4 := cell_regrown c4
        have r5 := cell_regrown c5
        have r6 := cell_regrown c6
        have r7 := cell_regrown c7
        have r8 := cell_regrown c8
        refine wp_region_quiet_below (by kernel_rfl) (by kernel_rfl) ?_
        repeat (go_big_quiet_step (first | (go_at_call 45; exact Calls.regrown_of ((HL.out _ _).mono fun _ _ hh => ⟨by have h0 := hh.1; simp only [cond_true, cond_false] at h0; exact h0, hh.2.below⟩))))
        refine wpQuiet_nil ?_
        intro _ hw'
        obtain ⟨⟨dq, osq⟩, hw''⟩ := hw'
        subst hw''
        have V3 := Lib.hid (V.out.then0 (Upd.regrown w3 dq osq))
        clear r0 r1 r2 r3 r4 r5 r6 r7 r8 c0 c1 c2 c3 c4 c5 c6 c7 c8
        generalize grow (redrawn w3 dq) osq = w4 at V3 ⊢
        obtain ⟨c0, c1, c2, c3, c4, c5, c6, c7, c8⟩ := HS.out _ V3.out
        have hP := HP.out
        have hQ := HQ.out
        go_wp2_with (go_at_call 42; refine (l05Choose_c _ _ _ _ _ (HI.out _ V3.out) hl (by omega)).mono ?_; rintro e w' ⟨rfl, rfl⟩)
        go_ret3
        exact ⟨ret_int3 (HV.out _).symm (HV.out _).symm HV0.out.symm, U.out.then0 V3.out⟩
      · by_cases hb : chF xs Q < 0
        · have HV0 : Hid (sfE h l r lo ro rh d o k xs = 4) := HE.out.trans (if_pos (by omega))
          have HV : Hid (∀ b, sfA h l r lo ro rh d o k xs b = 0) := fun b => by unfold sfA; rw [HV0.out]; rfl
          go_enter Try.func12, Try.ntmps12
          go_wp2_with fail
          try rw [hw1]
          clear hw1 hX
          refine (sIsWheel_c _ _ _ _ _ _ _ _ _ _).mono ?_
          rintro e w2 ⟨rfl, hu⟩
          have V := Lib.hid hu
          rw [q]
          clear hu c0 c1 c2 c3 c4 c5 c6 c7 c8
          obtain ⟨c0, c1, c2, c3, c4, c5, c6, c7, c8⟩ := HS.out _ V.out
          clear q
          go_wp2_with fail
          refine (l05Stock_c a c xs _ (HI.out _ V.out) hl).mono ?_
          rintro e w3 ⟨rfl, hu⟩
          replace V := Lib.hid (V.out.then0 hu)
          rw [q1]
          clear hu q1 c0 c1 c2 c3 c4 c5 c6 c7 c8
          obtain ⟨c0, c1, c2, c3, c4, c5, c6, c7, c8⟩ := HS.out _ V.out
          go_wp2_with fail
          have r0 := cell_regrown c0
          have r1 := cell_regrown c1
          have r2 := cell_regrown c2
          have r3 := cell_regrown c3
          have r4 := cell_regrown c4
          have r5 := cell_regrown c5
          have r6 := cell_regrown c6
          have r7 := cell_regrown c7
          have r8 := cell_regrown c8
          refine wp_region_quiet_below (by kernel_rfl) (by kernel_rfl) ?_
          repeat (go_big_quiet_step (first | (go_at_call 45; exact Calls.regrown_of ((HL.out _ _).mono fun _ _ hh => ⟨by have h0 := hh.1; simp only [cond_true, cond_false] at h0; exact h0, hh.2.below⟩))))
          refine wpQuiet_nil ?_
          intro _ hw'
          obtain ⟨⟨dq, osq⟩, hw''⟩ := hw'
          subst hw''
          have V3 := Lib.hid (V.out.then0 (Upd.regrown w3 dq osq))
          clear r0 r1 r2 r3 r4 r5 r6 r7 r8 c0 c1 c2 c3 c4 c5 c6 c7 c8
          generalize grow (redrawn w3 dq) osq = w4 at V3 ⊢
          obtain ⟨c0, c1, c2, c3, c4, c5, c6, c7, c8⟩ := HS.out _ V3.out
          have hP := HP.out
          have hQ := HQ.out
          go_wp2_with (go_at_call 42; refine (l05Choose_c _ _ _ _ _ (HI.out _ V3.out) hl (by omega)).mono ?_; rintro e w' ⟨rfl, rfl⟩)
          go_ret3
          exact ⟨ret_int3 (HV.out _).symm (HV.out _).symm HV0.out.symm, U.out.then0 V3.out⟩
        · have HV0 : Hid (sfE h l r lo ro rh d o k xs = 0) := HE.out.trans (if_neg (by omega))
          have HV := Lib.hid (HR.out HV0.out)
          go_enter Try.func12, Try.ntmps12
          go_wp2_with fail
          try rw [hw1]
          clear hw1 hX
          refine (sIsWheel_c _ _ _ _ _ _ _ _ _ _).mono ?_
          rintro e w2 ⟨rfl, hu⟩
          have V := Lib.hid hu
          rw [q]
          clear hu c0 c1 c2 c3 c4 c5 c6 c7 c8
          obtain ⟨c0, c1, c2, c3, c4, c5, c6, c7, c8⟩ := HS.out _ V.out
          clear q
          go_wp2_with fail
          refine (l05Stock_c a c xs _ (HI.out _ V.out) hl).mono ?_
          rintro e w3 ⟨rfl, hu⟩
          replace V := Lib.hid (V.out.then0 hu)
          rw [q1]
          clear hu q1 c0 c1 c2 c3 c4 c5 c6 c7 c8
          obtain ⟨c0, c1, c2, c3, c4, c5, c6, c7, c8⟩ := HS.out _ V.out
          go_wp2_with fail
          have r0 := cell_regrown c0
          have r1 := cell_regrown c1
          have r2 := cell_regrown c2
          have r3 := cell_regrown c3
          have r4 := cell_regrown c4
          have r5 := cell_regrown c5
          have r6 := cell_regrown c6
          have r7 := cell_regrown c7
          have r8 := cell_regrown c8
          refine wp_region_quiet_below (by kernel_rfl) (by kernel_rfl) ?_
          repeat (go_big_quiet_step (first | (go_at_call 45; exact Calls.regrown_of ((HL.out _ _).mono fun _ _ hh => ⟨by have h0 := hh.1; simp only [cond_true, cond_false] at h0; exact h0, hh.2.below⟩))))
          refine wpQuiet_nil ?_
          intro _ hw'
          obtain ⟨⟨dq, osq⟩, hw''⟩ := hw'
          subst hw''
          have V3 := Lib.hid (V.out.then0 (Upd.regrown w3 dq osq))
          clear r0 r1 r2 r3 r4 r5 r6 r7 r8 c0 c1 c2 c3 c4 c5 c6 c7 c8
          generalize grow (redrawn w3 dq) osq = w4 at V3 ⊢
          obtain ⟨c0, c1, c2, c3, c4, c5, c6, c7, c8⟩ := HS.out _ V3.out
          have hP := HP.out
          have hQ := HQ.out
          go_wp2_with (go_at_call 42; refine (l05Choose_c _ _ _ _ _ (HI.out _ V3.out) hl (by omega)).mono ?_; rintro e w' ⟨rfl, rfl⟩)
          go_ret3
          exact ⟨ret_int3 HV.out.1.symm HV.out.2.symm HV0.out.symm, U.out.then0 V3.out⟩
end Go.Proofs.Ytbjeaadnanimfaa
