/- Chapter 4: wheels. -/
import Derived.Test.YtbjeaadnanimfaaWheel
import Derived.Deep.RegionHeld3
import Derived.Lib.QuietBelow
import Derived.BigQuiet
namespace Go.Proofs.Ytbjeaadnanimfaa
open Go.RowKit Go.Sort
set_option linter.unusedVariables false
set_option linter.unusedSimpArgs false

theorem Upd.regrown (w : World) (d : Nat) (os : Array Obj) : Upd [] w (grow (redrawn w d) os) := by
  have b := below_regrown w d os
  exact ⟨b.os, b.tape, b.output, b.size, fun k hk _ => b.block k hk⟩
theorem hubB_t {h l r lo ro : Int} (e : hubB h l r lo ro = true) : (12 ≤ h ∧ h ≤ 48 ∧ h % 4 = 0) ∧ (200 ≤ l ∧ l ≤ 1200) ∧ (200 ≤ r ∧ r ≤ 1200) ∧ (0 ≤ lo ∧ lo ≤ 500) ∧ 0 ≤ ro ∧ ro ≤ 500 := by
  simp only [hubB, Bool.and_eq_true] at e
  have := holesB_t e.1
  exact ⟨by omega, inB_t e.2.1, inB_t e.2.2.1, inB_t e.2.2.2.1, inB_t e.2.2.2.2⟩
theorem mostCrosses_c (n : Int) (w : World) (hn : 0 ≤ n ∧ n ≤ 1000) : Calls Try.prog 54 #[.int .i64 n] w fun e w' => e = .returned (.int .i64 (n / 4 - 1)) ∧ w = w' := by
  have h2 : n.tdiv 4 = n / 4 := Int.tdiv_eq_ediv_of_nonneg (by omega)
  have hw1 : IntKind.i64.wrap (n.tdiv 4) = n / 4 := by rw [h2]; exact IntWalk.i64_in _ (by omega)
  have hw2 : IntKind.i64.wrap (n / 4 - 1) = n / 4 - 1 := IntWalk.i64_in _ (by omega)
  clear h2
  go_enter Try.func54, Try.ntmps54
  go_wp2
  go_ret
  exact ⟨rfl, rfl⟩
set_option maxRecDepth 20000 in
set_option maxHeartbeats 3200000 in
theorem iIsWheel_c (h l r lo ro rh d o k : Int) (w : World) : Calls Try.prog 46 #[.agg #[.int .i64 h, .int .i64 l, .int .i64 r, .int .i64 lo, .int .i64 ro, .int .i64 rh, .int .i64 d, .int .i64 o, .int .i64 k]] w fun e w' => e = .returned (.bool (whB h l r lo ro rh d o k)) ∧ Upd [] w w' := by
  have HS0 : Hid (∀ w', Upd [] (w.alloc (.cells #[.int .i64 h, .int .i64 l, .int .i64 r, .int .i64 lo, .int .i64 ro, .int .i64 rh, .int .i64 d, .int .i64 o, .int .i64 k] 34)) w' → w'.cell? ⟨w.heap.size, 0, none⟩ = some (.int .i64 h) ∧ w'.cell? ⟨w.heap.size, 1, none⟩ = some (.int .i64 l) ∧ w'.cell? ⟨w.heap.size, 2, none⟩ = some (.int .i64 r) ∧ w'.cell? ⟨w.heap.size, 3, none⟩ = some (.int .i64 lo) ∧ w'.cell? ⟨w.heap.size, 4, none⟩ = some (.int .i64 ro) ∧ w'.cell? ⟨w.heap.size, 5, none⟩ = some (.int .i64 rh) ∧ w'.cell? ⟨w.heap.size, 6, none⟩ = some (.int .i64 d) ∧ w'.cell? ⟨w.heap.size, 7, none⟩ = some (.int .i64 o) ∧ w'.cell? ⟨w.heap.size, 8, none⟩ = some (.int .i64 k)) := fun w' u => ((Blk.new w [h, l, r, lo, ro, rh, d, o, k] 34).kept0 u).whC
  have U : Hid (Upd [] w (w.alloc (.cells #[.int .i64 h, .int .i64 l, .int .i64 r, .int .i64 lo, .int .i64 ro, .int .i64 rh, .int .i64 d, .int .i64 o, .int .i64 k] 34))) := (Upd.refl w).alloc _
  obtain ⟨X, hX⟩ : ∃ X, w.heap.size = X := ⟨_, rfl⟩
  obtain ⟨w1, hw1⟩ : ∃ W, w.alloc (.cells #[.int .i64 h, .int .i64 l, .int .i64 r, .int .i64 lo, .int .i64 ro, .int .i64 rh, .int .i64 d, .int .i64 o, .int .i64 k] 34) = W := ⟨_, rfl⟩
  have HS : Hid (∀ w', Upd [] w1 w' → w'.cell? ⟨X, 0, none⟩ = some (.int .i64 h) ∧ w'.cell? ⟨X, 1, none⟩ = some (.int .i64 l) ∧ w'.cell? ⟨X, 2, none⟩ = some (.int .i64 r) ∧ w'.cell? ⟨X, 3, none⟩ = some (.int .i64 lo) ∧ w'.cell? ⟨X, 4, none⟩ = some (.int .i64 ro) ∧ w'.cell? ⟨X, 5, none⟩ = some (.int .i64 rh) ∧ w'.cell? ⟨X, 6, none⟩ = some (.int .i64 d) ∧ w'.cell? ⟨X, 7, none⟩ = some (.int .i64 o) ∧ w'.cell? ⟨X, 8, none⟩ = some (.int .i64 k)) := by rw [← hw1, ← hX]; exact HS0
  rw [hw1] at U
  obtain ⟨c0, c1, c2, c3, c4, c5, c6, c7, c8⟩ := HS.out w1 (Upd.refl _)
  clear HS0
  have r0 := cell_regrown c0
  have r1 := cell_regrown c1
  have r2 := cell_regrown c2
  have r3 := cell_regrown c3
  have r4 := cell_regrown c4
  have r5 := cell_regrown c5
  have r6 := cell_regrown c6
  have r7 := cell_regrown c7
  have r8 := cell_regrown c8
  cases q1 : hubB h l r lo ro
  · have HN : Hid (whB h l r lo ro rh d o k = false) := by show _ = _; simp [whB, q1]
    go_enter Try.func46, Try.ntmps46
    go_wp2_with fail
    try rw [hw1]
    try rw [hX]
    clear hw1 hX
    refine wp_region_quiet_below (by kernel_rfl) (by kernel_rfl) ?_
    repeat (go_big_quiet_step (first | (go_at_call 67; exact Calls.regrown_of ((iIsRim_c _ _ _ _).mono fun _ _ hh => ⟨by rw [q2] at hh; exact hh.1, hh.2.below⟩)) | (go_at_call 66; exact Calls.regrown_of ((iIsHub_c _ _ _ _ _ _).mono fun _ _ hh => ⟨by rw [q1] at hh; exact hh.1, hh.2.below⟩)) | (go_at_call 54; exact Calls.regrown_of ((mostCrosses_c _ _ (by omega)).mono fun _ _ hh => ⟨hh.1, hh.2 ▸ (Upd.refl _).below⟩)) | (go_at_call 38; exact Calls.regrown_of ((within_c _ _ _ _).mono fun _ _ hh => ⟨by rw [q4] at hh; exact hh.1, hh.2 ▸ (Upd.refl _).below⟩))))
    refine wpQuiet_nil ?_
    intro _ hw'
    obtain ⟨⟨dq, osq⟩, hw''⟩ := hw'
    subst hw''
    all_goals
      go_wp2_with fail
      go_ret
      exact ⟨ret_bool HN.out.symm, U.out.then0 (Upd.regrown _ _ _)⟩
  · cases q2 : rimB rh d o
    · have HN : Hid (whB h l r lo ro rh d o k = false) := by show _ = _; simp [whB, q1, q2]
      go_enter Try.func46, Try.ntmps46
      go_wp2_with fail
      try rw [hw1]
      try rw [hX]
      clear hw1 hX
      refine wp_region_quiet_below (by kernel_rfl) (by kernel_rfl) ?_
      repeat (go_big_quiet_step (first | (go_at_call 67; exact Calls.regrown_of ((iIsRim_c _ _ _ _).mono fun _ _ hh => ⟨by rw [q2] at hh; exact hh.1, hh.2.below⟩)) | (go_at_call 66; exact Calls.regrown_of ((iIsHub_c _ _ _ _ _ _).mono fun _ _ hh => ⟨by rw [q1] at hh; exact hh.1, hh.2.below⟩)) | (go_at_call 54; exact Calls.regrown_of ((mostCrosses_c _ _ (by omega)).mono fun _ _ hh => ⟨hh.1, hh.2 ▸ (Upd.refl _).below⟩)) | (go_at_call 38; exact Calls.regrown_of ((within_c _ _ _ _).mono fun _ _ hh => ⟨by rw [q4] at hh; exact hh.1, hh.2 ▸ (Upd.refl _).below⟩))))
      refine wpQuiet_nil ?_
      intro _ hw'
      obtain ⟨⟨dq, osq⟩, hw''⟩ := hw'
      subst hw''
      all_goals
        go_wp2_with fail
        go_ret
        exact ⟨ret_bool HN.out.symm, U.out.then0 (Upd.regrown _ _ _)⟩
    · obtain ⟨hh, -⟩ := hubB_t q1
      by_cases q3 : h = rh
      case neg =>
        have HN : Hid (whB h l r lo ro rh d o k = false) := by show _ = _; simp [whB, q1, q2, q3]
        have hb3 : (h == rh) = false := beq_eq_false_iff_ne.2 q3
        go_enter Try.func46, Try.ntmps46
        go_wp2_with fail
        try rw [hw1]
        try rw [hX]
        clear hw1 hX
        refine wp_region_quiet_below (by kernel_rfl) (by kernel_rfl) ?_
        repeat (go_big_quiet_step (first | (go_at_call 67; exact Calls.regrown_of ((iIsRim_c _ _ _ _).mono fun _ _ hh => ⟨by rw [q2] at hh; exact hh.1, hh.2.below⟩)) | (go_at_call 66; exact Calls.regrown_of ((iIsHub_c _ _ _ _ _ _).mono fun _ _ hh => ⟨by rw [q1] at hh; exact hh.1, hh.2.below⟩)) | (go_at_call 54; exact Calls.regrown_of ((mostCrosses_c _ _ (by omega)).mono fun _ _ hh => ⟨hh.1, hh.2 ▸ (Upd.refl _).below⟩)) | (go_at_call 38; exact Calls.regrown_of ((within_c _ _ _ _).mono fun _ _ hh => ⟨by rw [q4] at hh; exact hh.1, hh.2 ▸ (Upd.refl _).below⟩))))
        refine wpQuiet_nil ?_
        intro _ hw'
        obtain ⟨⟨dq, osq⟩, hw''⟩ := hw'
        subst hw''
        all_goals
          go_wp2_with fail
          go_ret
          exact ⟨ret_bool HN.out.symm, U.out.then0 (Upd.regrown _ _ _)⟩
      case pos =>
        subst q3
        have h2 : h.tdiv 4 = h / 4 := Int.tdiv_eq_ediv_of_nonneg (by omega)
        have hw3 : IntKind.i64.wrap (h.tdiv 4) = h / 4 := by rw [h2]; exact IntWalk.i64_in _ (by omega)
        have hw4 : IntKind.i64.wrap (h / 4 - 1) = h / 4 - 1 := IntWalk.i64_in _ (by omega)
        clear h2
        cases q4 : inB k 0 (h / 4 - 1)
        · have HN : Hid (whB h l r lo ro h d o k = false) := by show _ = _; simp [whB, q1, q2, q4]
          go_enter Try.func46, Try.ntmps46
          go_wp2_with fail
          try rw [hw1]
          try rw [hX]
          clear hw1 hX
          refine wp_region_quiet_below (by kernel_rfl) (by kernel_rfl) ?_
          repeat (go_big_quiet_step (first | (go_at_call 67; exact Calls.regrown_of ((iIsRim_c _ _ _ _).mono fun _ _ hh => ⟨by rw [q2] at hh; exact hh.1, hh.2.below⟩)) | (go_at_call 66; exact Calls.regrown_of ((iIsHub_c _ _ _ _ _ _).mono fun _ _ hh => ⟨by rw [q1] at hh; exact hh.1, hh.2.below⟩)) | (go_at_call 54; exact Calls.regrown_of ((mostCrosses_c _ _ (by omega)).mono fun _ _ hh => ⟨hh.1, hh.2 ▸ (Upd.refl _).below⟩)) | (go_at_call 38; exact Calls.regrown_of ((within_c _ _ _ _).mono fun _ _ hh => ⟨by rw [q4] at hh; exact hh.1, hh.2 ▸ (Upd.refl _).below⟩))))
          refine wpQuiet_nil ?_
          intro _ hw'
          obtain ⟨⟨dq, osq⟩, hw''⟩ := hw'
          subst hw''
          all_goals
            go_wp2_with fail
            go_ret
            exact ⟨ret_bool HN.out.symm, U.out.then0 (Upd.regrown _ _ _)⟩
        · have HN : Hid (whB h l r lo ro h d o k = true) := by show _ = _; simp [whB, q1, q2, q4]
          go_enter Try.func46, Try.ntmps46
          go_wp2_with fail
          try rw [hw1]
          try rw [hX]
          clear hw1 hX
          refine wp_region_quiet_below (by kernel_rfl) (by kernel_rfl) ?_
          repeat (go_big_quiet_step (first | (go_at_call 67; exact Calls.regrown_of ((iIsRim_c _ _ _ _).mono fun _ _ hh => ⟨by rw [q2] at hh; exact hh.1, hh.2.below⟩)) | (go_at_call 66; exact Calls.regrown_of ((iIsHub_c _ _ _ _ _ _).mono fun _ _ hh => ⟨by rw [q1] at hh; exact hh.1, hh.2.below⟩)) | (go_at_call 54; exact Calls.regrown_of ((mostCrosses_c _ _ (by omega)).mono fun _ _ hh => ⟨hh.1, hh.2 ▸ (Upd.refl _).below⟩)) | (go_at_call 38; exact Calls.regrown_of ((within_c _ _ _ _).mono fun _ _ hh => ⟨by rw [q4] at hh; exact hh.1, hh.2 ▸ (Upd.refl _).below⟩))))
          refine wpQuiet_nil ?_
          intro _ hw'
          obtain ⟨⟨dq, osq⟩, hw''⟩ := hw'
          subst hw''
          all_goals
            go_wp2_with fail
            go_ret
            exact ⟨ret_bool HN.out.symm, U.out.then0 (Upd.regrown _ _ _)⟩
set_option maxRecDepth 20000 in
set_option maxHeartbeats 3200000 in
theorem sIsWheel_c (h l r lo ro rh d o k : Int) (w : World) : Calls Try.prog 44 #[.agg #[.int .i64 h, .int .i64 l, .int .i64 r, .int .i64 lo, .int .i64 ro, .int .i64 rh, .int .i64 d, .int .i64 o, .int .i64 k]] w fun e w' => e = .returned (.bool (whB h l r lo ro rh d o k)) ∧ Upd [] w w' := by
  have HS0 : Hid (∀ w', Upd [] (w.alloc (.cells #[.int .i64 h, .int .i64 l, .int .i64 r, .int .i64 lo, .int .i64 ro, .int .i64 rh, .int .i64 d, .int .i64 o, .int .i64 k] 34)) w' → w'.cell? ⟨w.heap.size, 0, none⟩ = some (.int .i64 h) ∧ w'.cell? ⟨w.heap.size, 1, none⟩ = some (.int .i64 l) ∧ w'.cell? ⟨w.heap.size, 2, none⟩ = some (.int .i64 r) ∧ w'.cell? ⟨w.heap.size, 3, none⟩ = some (.int .i64 lo) ∧ w'.cell? ⟨w.heap.size, 4, none⟩ = some (.int .i64 ro) ∧ w'.cell? ⟨w.heap.size, 5, none⟩ = some (.int .i64 rh) ∧ w'.cell? ⟨w.heap.size, 6, none⟩ = some (.int .i64 d) ∧ w'.cell? ⟨w.heap.size, 7, none⟩ = some (.int .i64 o) ∧ w'.cell? ⟨w.heap.size, 8, none⟩ = some (.int .i64 k)) := fun w' u => ((Blk.new w [h, l, r, lo, ro, rh, d, o, k] 34).kept0 u).whC
  have U : Hid (Upd [] w (w.alloc (.cells #[.int .i64 h, .int .i64 l, .int .i64 r, .int .i64 lo, .int .i64 ro, .int .i64 rh, .int .i64 d, .int .i64 o, .int .i64 k] 34))) := (Upd.refl w).alloc _
  obtain ⟨X, hX⟩ : ∃ X, w.heap.size = X := ⟨_, rfl⟩
  obtain ⟨w1, hw1⟩ : ∃ W, w.alloc (.cells #[.int .i64 h, .int .i64 l, .int .i64 r, .int .i64 lo, .int .i64 ro, .int .i64 rh, .int .i64 d, .int .i64 o, .int .i64 k] 34) = W := ⟨_, rfl⟩
  have HS : Hid (∀ w', Upd [] w1 w' → w'.cell? ⟨X, 0, none⟩ = some (.int .i64 h) ∧ w'.cell? ⟨X, 1, none⟩ = some (.int .i64 l) ∧ w'.cell? ⟨X, 2, none⟩ = some (.int .i64 r) ∧ w'.cell? ⟨X, 3, none⟩ = some (.int .i64 lo) ∧ w'.cell? ⟨X, 4, none⟩ = some (.int .i64 ro) ∧ w'.cell? ⟨X, 5, none⟩ = some (.int .i64 rh) ∧ w'.cell? ⟨X, 6, none⟩ = some (.int .i64 d) ∧ w'.cell? ⟨X, 7, none⟩ = some (.int .i64 o) ∧ w'.cell? ⟨X, 8, none⟩ = some (.int .i64 k)) := by rw [← hw1, ← hX]; exact HS0
  rw [hw1] at U
  obtain ⟨c0, c1, c2, c3, c4, c5, c6, c7, c8⟩ := HS.out w1 (Upd.refl _)
  clear HS0
  cases q1 : hubB h l r lo ro
  · have HN : Hid (whB h l r lo ro rh d o k = false) := by show _ = _; simp [whB, q1]
    go_enter Try.func44, Try.ntmps44
    go_wp2_with fail
    try rw [hw1]
    refine (sIsHub_c _ _ _ _ _ _).mono ?_
    rintro e w2 ⟨rfl, hu⟩
    have V := Lib.hid hu
    clear hu c0 c1 c2 c3 c4 c5 c6 c7 c8
    obtain ⟨c0, c1, c2, c3, c4, c5, c6, c7, c8⟩ := HS.out _ V.out
    go_wp2_with fail
    go_ret
    exact ⟨ret_bool HN.out.symm, U.out.then0 V.out⟩
  · cases q2 : rimB rh d o
    · have HN : Hid (whB h l r lo ro rh d o k = false) := by show _ = _; simp [whB, q1, q2]
      go_enter Try.func44, Try.ntmps44
      go_wp2_with fail
      try rw [hw1]
      refine (sIsHub_c _ _ _ _ _ _).mono ?_
      rintro e w2 ⟨rfl, hu⟩
      have V := Lib.hid hu
      clear hu c0 c1 c2 c3 c4 c5 c6 c7 c8
      obtain ⟨c0, c1, c2, c3, c4, c5, c6, c7, c8⟩ := HS.out _ V.out
      go_wp2_with fail
      refine (sIsRim_c _ _ _ _).mono ?_
      rintro e w3 ⟨rfl, hu⟩
      replace V := Lib.hid (V.out.then0 hu)
      clear hu c0 c1 c2 c3 c4 c5 c6 c7 c8
      obtain ⟨c0, c1, c2, c3, c4, c5, c6, c7, c8⟩ := HS.out _ V.out
      go_wp2_with (go_at_call 41; refine (l01In_c _ _ _ _).mono ?_; rintro e w' ⟨rfl, rfl⟩)
      go_ret
      exact ⟨ret_bool HN.out.symm, U.out.then0 V.out⟩
    · obtain ⟨hh, -⟩ := hubB_t q1
      by_cases q3 : h = rh
      case neg =>
        have HN : Hid (whB h l r lo ro rh d o k = false) := by show _ = _; simp [whB, q1, q2, q3]
        have hb3 : (h == rh) = false := beq_eq_false_iff_ne.2 q3
        go_enter Try.func44, Try.ntmps44
        go_wp2_with fail
        try rw [hw1]
        refine (sIsHub_c _ _ _ _ _ _).mono ?_
        rintro e w2 ⟨rfl, hu⟩
        have V := Lib.hid hu
        clear hu c0 c1 c2 c3 c4 c5 c6 c7 c8
        obtain ⟨c0, c1, c2, c3, c4, c5, c6, c7, c8⟩ := HS.out _ V.out
        go_wp2_with fail
        refine (sIsRim_c _ _ _ _).mono ?_
        rintro e w3 ⟨rfl, hu⟩
        replace V := Lib.hid (V.out.then0 hu)
        clear hu c0 c1 c2 c3 c4 c5 c6 c7 c8
        obtain ⟨c0, c1, c2, c3, c4, c5, c6, c7, c8⟩ := HS.out _ V.out
        go_wp2_with (go_at_call 41; refine (l01In_c _ _ _ _).mono ?_; rintro e w' ⟨rfl, rfl⟩)
        go_ret
        exact ⟨ret_bool HN.out.symm, U.out.then0 V.out⟩
      case pos =>
        subst q3
        have h2 : h.tdiv 4 = h / 4 := Int.tdiv_eq_ediv_of_nonneg (by omega)
        have hw3 : IntKind.i64.wrap (h.tdiv 4) = h / 4 := by rw [h2]; exact IntWalk.i64_in _ (by omega)
        have hw4 : IntKind.i64.wrap (h / 4 - 1) = h / 4 - 1 := IntWalk.i64_in _ (by omega)
        clear h2
        cases q4 : inB k 0 (h / 4 - 1)
        · have HN : Hid (whB h l r lo ro h d o k = false) := by show _ = _; simp [whB, q1, q2, q4]
          go_enter Try.func44, Try.ntmps44
          go_wp2_with fail
          try rw [hw1]
          refine (sIsHub_c _ _ _ _ _ _).mono ?_
          rintro e w2 ⟨rfl, hu⟩
          have V := Lib.hid hu
          clear hu c0 c1 c2 c3 c4 c5 c6 c7 c8
          obtain ⟨c0, c1, c2, c3, c4, c5, c6, c7, c8⟩ := HS.out _ V.out
          go_wp2_with fail
          refine (sIsRim_c _ _ _ _).mono ?_
          rintro e w3 ⟨rfl, hu⟩
          replace V := Lib.hid (V.out.then0 hu)
          clear hu c0 c1 c2 c3 c4 c5 c6 c7 c8
          obtain ⟨c0, c1, c2, c3, c4, c5, c6, c7, c8⟩ := HS.out _ V.out
          go_wp2_with (go_at_call 41; refine (l01In_c _ _ _ _).mono ?_; rintro e w' ⟨rfl, rfl⟩)
          go_ret
          exact ⟨ret_bool HN.out.symm, U.out.then0 V.out⟩
        · have HN : Hid (whB h l r lo ro h d o k = true) := by show _ = _; simp [whB, q1, q2, q4]
          go_enter Try.func44, Try.ntmps44
          go_wp2_with fail
          try rw [hw1]
          refine (sIsHub_c _ _ _ _ _ _).mono ?_
          rintro e w2 ⟨rfl, hu⟩
          have V := Lib.hid hu
          clear hu c0 c1 c2 c3 c4 c5 c6 c7 c8
          obtain ⟨c0, c1, c2, c3, c4, c5, c6, c7, c8⟩ := HS.out _ V.out
          go_wp2_with fail
          refine (sIsRim_c _ _ _ _).mono ?_
          rintro e w3 ⟨rfl, hu⟩
          replace V := Lib.hid (V.out.then0 hu)
          clear hu c0 c1 c2 c3 c4 c5 c6 c7 c8
          obtain ⟨c0, c1, c2, c3, c4, c5, c6, c7, c8⟩ := HS.out _ V.out
          go_wp2_with (go_at_call 41; refine (l01In_c _ _ _ _).mono ?_; rintro e w' ⟨rfl, rfl⟩)
          go_ret
          exact ⟨ret_bool HN.out.symm, U.out.then0 V.out⟩
end Go.Proofs.Ytbjeaadnanimfaa
