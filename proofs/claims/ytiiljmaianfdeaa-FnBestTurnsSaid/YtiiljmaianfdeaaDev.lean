/- The contracts of chapter 8: deviations, effects, tolerances, the worst place, plans undone. -/
import Derived.Test.YtiiljmaianfdeaaTens
namespace Go.Proofs.Ytiiljmaianfdeaa
open Go.RowKit
set_option linter.unusedVariables false
set_option linter.unusedSimpArgs false

theorem sAreDeviations_c (a : Option Addr) (c : Nat) (xs : List Int) (w : World) (h : IntsAt w a xs) (hl : xs.length ≤ 1048576) :
    Calls Try.prog 71 #[.slice a xs.length c] w fun e w' => e = .returned (.bool (areB xs (-500) 500 4 10)) ∧ w = w' := by
  have H := Lib.hid h; clear h
  go_enter Try.func71, Try.ntmps71
  go_wp2
  go_loop [3] (fun i => ∃ k : Nat, k ≤ xs.length ∧ i = .int .i64 k ∧ Hid (allB (xs.take k) (-500) 500 = true)) (fun i => xs.length - (intOf i).toNat)
  case atStart => exact ⟨0, by omega, rfl, rfl⟩
  case round =>
    obtain ⟨k, hk, rfl, HA⟩ := hrel
    by_cases hlt : k < xs.length
    · obtain ⟨b, off, x, rfl, hc, hx⟩ := H.out.get hlt
      cases hi : inB x (-500) 500
      · have HN : Hid (areB xs (-500) 500 4 10 = false) := by show areB _ _ _ _ _ = false; rw [areB, allB_f hx.out hi]; rfl
        go_wp2_with (go_at_call 72; refine (l01In_c _ _ _ _).mono ?_; rintro e w' ⟨rfl, rfl⟩)
        go_ret
        exact ⟨ret_bool HN.out.symm, rfl⟩
      · have HN := Lib.hid (allB_step hx.out HA.out hi)
        go_wp2_with (go_at_call 72; refine (l01In_c _ _ _ _).mono ?_; rintro e w' ⟨rfl, rfl⟩)
        go_round
        case rel => exact ⟨k + 1, by omega, by go_num, HN⟩
        case measure => simp [intOf]; omega
    · obtain rfl : k = xs.length := by omega
      have HN : Hid (areB xs (-500) 500 4 10 = inB xs.length 4 10) := by have := HA.out; rw [List.take_length] at this; show areB _ _ _ _ _ = _; rw [areB, this, Bool.true_and]
      go_wp2_with (go_at_call 72; refine (l01In_c _ _ _ _).mono ?_; rintro e w' ⟨rfl, rfl⟩)
      go_ret
      exact ⟨ret_bool HN.out.symm, rfl⟩
theorem iAreDeviations_c (a : Option Addr) (c : Nat) (xs : List Int) (w : World) (h : IntsAt w a xs) (hl : xs.length ≤ 1048576) :
    Calls Try.prog 45 #[.slice a xs.length c] w fun e w' => e = .returned (.bool (areB xs (-500) 500 4 10)) ∧ w = w' := by
  have H := Lib.hid h; clear h
  by_cases h1 : 4 ≤ (xs.length : Int)
  · by_cases h2 : (xs.length : Int) ≤ 10
    · have HN : Hid (areB xs (-500) 500 4 10 = allB xs (-500) 500) := by show areB _ _ _ _ _ = _; rw [areB, inB_mk ⟨h1, h2⟩, Bool.and_true]
      go_enter Try.func45, Try.ntmps45
      go_wp2_with (go_at_call 67; refine (allWithin_c _ _ _ _ _ _ H.out hl).mono ?_; rintro e w' ⟨rfl, rfl⟩)
      go_ret
      exact ⟨ret_bool HN.out.symm, rfl⟩
    · have HN : Hid (areB xs (-500) 500 4 10 = false) := by show areB _ _ _ _ _ = _; rw [areB, inB_mkf (by omega), Bool.and_false]
      go_enter Try.func45, Try.ntmps45
      go_wp2_with fail
      go_ret
      exact ⟨ret_bool HN.out.symm, rfl⟩
  · have HN : Hid (areB xs (-500) 500 4 10 = false) := by show areB _ _ _ _ _ = _; rw [areB, inB_mkf (by omega), Bool.and_false]
    go_enter Try.func45, Try.ntmps45
    go_wp2_with fail
    go_ret
    exact ⟨ret_bool HN.out.symm, rfl⟩
theorem iAreDeviations_n (a : Option Addr) (c n : Nat) (xs : List Int) (w : World) (e : xs.length = n) (h : IntsAt w a xs) (hl : n ≤ 1048576) :
    Calls Try.prog 45 #[.slice a n c] w fun e w' => e = .returned (.bool (areB xs (-500) 500 4 10)) ∧ w = w' := by
  subst e; exact iAreDeviations_c a c xs w h hl

/-! ### Effects -/
def effB (s : List Int) : Bool := areB s 0 20 1 3 && decide (0 < s.getD 0 0)
theorem effB_t {s : List Int} (h : effB s = true) : (∀ x, x ∈ s → 0 ≤ x ∧ x ≤ 20) ∧ 1 ≤ (s.length : Int) ∧ (s.length : Int) ≤ 3 ∧ 0 < s.getD 0 0 := by
  simp only [effB, Bool.and_eq_true, decide_eq_true_eq] at h
  obtain ⟨h1, h2, h3⟩ := areB_t h.1
  exact ⟨h1, h2, h3, h.2⟩
theorem effB_no1 {s : List Int} (h : allB s 0 20 = false) : effB s = false := by simp [effB, areB, h]
theorem effB_no2 {s : List Int} (h : inB s.length 1 3 = false) : effB s = false := by simp [effB, areB, h]
theorem effB_no3 {s : List Int} (h : ¬ 0 < s.getD 0 0) : effB s = false := by simp only [effB, decide_eq_false h]; simp
theorem effB_yes {s : List Int} (h1 : allB s 0 20 = true) (h2 : inB s.length 1 3 = true) (h3 : 0 < s.getD 0 0) : effB s = true := by
  simp only [effB, areB, h1, h2, decide_eq_true h3]; rfl
set_option maxRecDepth 20000 in
set_option maxHeartbeats 400000 in
theorem sIsEffect_c (a : Option Addr) (c : Nat) (s : List Int) (w : World) (h : IntsAt w a s) (hl : s.length ≤ 1048576) :
    Calls Try.prog 33 #[.slice a s.length c] w fun e w' => e = .returned (.bool (effB s)) ∧ w = w' := by
  have H := Lib.hid h; clear h
  go_enter Try.func33, Try.ntmps33
  go_wp2
  go_loop [3] (fun i => ∃ k : Nat, k ≤ s.length ∧ i = .int .i64 k ∧ Hid (allB (s.take k) 0 20 = true)) (fun i => s.length - (intOf i).toNat)
  case atStart => exact ⟨0, by omega, rfl, rfl⟩
  case round =>
    obtain ⟨k, hk, rfl, HA⟩ := hrel
    by_cases hlt : k < s.length
    · obtain ⟨b, off, x, rfl, hc, hx⟩ := H.out.get hlt
      cases hi : inB x 0 20
      · have HN := Lib.hid (effB_no1 (allB_f hx.out hi))
        go_wp2_with (go_at_call 72; refine (l01In_c _ _ _ _).mono ?_; rintro e w' ⟨rfl, rfl⟩)
        go_ret
        exact ⟨ret_bool HN.out.symm, rfl⟩
      · have HN := Lib.hid (allB_step hx.out HA.out hi)
        go_wp2_with (go_at_call 72; refine (l01In_c _ _ _ _).mono ?_; rintro e w' ⟨rfl, rfl⟩)
        go_round
        case rel => exact ⟨k + 1, by omega, by go_num, HN⟩
        case measure => simp [intOf]; omega
    · obtain rfl : k = s.length := by omega
      have HA1 : Hid (allB s 0 20 = true) := by have := HA.out; rwa [List.take_length] at this
      clear HA
      cases hi : inB s.length 1 3
      · have HN := Lib.hid (effB_no2 hi)
        go_wp2_with (go_at_call 72; refine (l01In_c _ _ _ _).mono ?_; rintro e w' ⟨rfl, rfl⟩)
        go_ret
        exact ⟨ret_bool HN.out.symm, rfl⟩
      · have hl2 := inB_t hi
        obtain ⟨b, off, x, rfl, hc, hx⟩ := H.out.get (k := 0) (by omega)
        rw [Nat.add_zero] at hc
        have hgx : s.getD 0 0 = x := by rw [List.getD_eq_getElem?_getD, hx.out]; rfl
        by_cases h0 : 0 < x
        · have HN := Lib.hid (effB_yes HA1.out hi (by rw [hgx]; exact h0))
          clear hgx
          go_wp2_with (go_at_call 72; refine (l01In_c _ _ _ _).mono ?_; rintro e w' ⟨rfl, rfl⟩)
          go_ret
          exact ⟨ret_bool HN.out.symm, rfl⟩
        · have HN := Lib.hid (effB_no3 (by rw [hgx]; exact h0))
          clear hgx
          go_wp2_with (go_at_call 72; refine (l01In_c _ _ _ _).mono ?_; rintro e w' ⟨rfl, rfl⟩)
          go_ret
          exact ⟨ret_bool (by first | exact HN.out.symm | (rw [HN.out]; exact decide_eq_false (by omega))), rfl⟩
set_option maxRecDepth 20000 in
set_option maxHeartbeats 400000 in
theorem iIsEffect_c (a : Option Addr) (c : Nat) (s : List Int) (w : World) (h : IntsAt w a s) (hl : s.length ≤ 1048576) :
    Calls Try.prog 32 #[.slice a s.length c] w fun e w' => e = .returned (.bool (effB s)) ∧ w = w' := by
  have H := Lib.hid h; clear h
  by_cases h1 : 1 ≤ (s.length : Int)
  · by_cases h2 : (s.length : Int) ≤ 3
    · cases h3 : allB s 0 20
      · have HN := Lib.hid (effB_no1 h3)
        go_enter Try.func32, Try.ntmps32
        go_wp2_with (go_at_call 67; refine (allWithin_c _ _ _ _ _ _ H.out hl).mono ?_; rintro e w' ⟨rfl, rfl⟩)
        go_ret
        exact ⟨ret_bool HN.out.symm, rfl⟩
      · obtain ⟨b, off, x, rfl, hc, hx⟩ := H.out.get (k := 0) (by omega)
        rw [Nat.add_zero] at hc
        have hgx : s.getD 0 0 = x := by rw [List.getD_eq_getElem?_getD, hx.out]; rfl
        by_cases h0 : 0 < x
        · have HN := Lib.hid (effB_yes h3 (inB_mk ⟨h1, h2⟩) (by rw [hgx]; exact h0))
          clear hgx
          go_enter Try.func32, Try.ntmps32
          go_wp2_with (go_at_call 67; refine (allWithin_c _ _ _ _ _ _ H.out hl).mono ?_; rintro e w' ⟨rfl, rfl⟩)
          go_ret
          exact ⟨ret_bool HN.out.symm, rfl⟩
        · have HN := Lib.hid (effB_no3 (by rw [hgx]; exact h0))
          clear hgx
          go_enter Try.func32, Try.ntmps32
          go_wp2_with (go_at_call 67; refine (allWithin_c _ _ _ _ _ _ H.out hl).mono ?_; rintro e w' ⟨rfl, rfl⟩)
          go_ret
          exact ⟨ret_bool (by first | exact HN.out.symm | (rw [HN.out]; exact decide_eq_false (by omega))), rfl⟩
    · have HN := Lib.hid (effB_no2 (inB_mkf (n := s.length) (a := 1) (b := 3) (by omega)))
      go_enter Try.func32, Try.ntmps32
      go_wp2_with fail
      go_ret
      exact ⟨ret_bool HN.out.symm, rfl⟩
  · have HN := Lib.hid (effB_no2 (inB_mkf (n := s.length) (a := 1) (b := 3) (by omega)))
    go_enter Try.func32, Try.ntmps32
    go_wp2_with fail
    go_ret
    exact ⟨ret_bool HN.out.symm, rfl⟩

/-! ### Codes and tolerances -/
def deB (xs s : List Int) : Bool := areB xs (-500) 500 4 10 && effB s
def codeD (xs s : List Int) (t : Int) : Int := if deB xs s then (if inB t 0 500 then 0 else 2) else 1
theorem dev_bd {xs : List Int} (h : areB xs (-500) 500 4 10 = true) : AllLe 500 xs ∧ 4 ≤ (xs.length : Int) ∧ (xs.length : Int) ≤ 10 := by
  obtain ⟨h1, h2, h3⟩ := areB_t h; exact ⟨h1, h2, h3⟩
theorem isTolerance_c (t : Int) (w : World) : Calls Try.prog 63 #[.int .i64 t] w fun e w' => e = .returned (.bool (inB t 0 500)) ∧ w = w' := by
  go_enter Try.func63, Try.ntmps63
  go_wp2_with (go_at_call 51; refine (within_c _ _ _ _).mono ?_; rintro e w' ⟨rfl, rfl⟩)
  go_ret
  exact ⟨rfl, rfl⟩
set_option maxRecDepth 20000 in
set_option maxHeartbeats 400000 in
theorem l08Code_c (a b : Option Addr) (ca cb : Nat) (xs s : List Int) (t : Int) (w : World) (h : IntsAt w a xs) (hs : IntsAt w b s) (hl : xs.length ≤ 1048576) (hl2 : s.length ≤ 1048576) :
    Calls Try.prog 65 #[.slice a xs.length ca, .slice b s.length cb, .int .i64 t] w fun e w' => e = .returned (.int .i64 (codeD xs s t)) ∧ w = w' := by
  have H := Lib.hid h
  have HS := Lib.hid hs
  clear h hs
  cases h1 : areB xs (-500) 500 4 10
  · have HE : Hid (codeD xs s t = 1) := by show codeD _ _ _ = _; simp [codeD, deB, h1]
    go_enter Try.func65, Try.ntmps65
    go_wp2_with (go_at_call 71; refine (sAreDeviations_c _ _ _ _ H.out hl).mono ?_; rintro e w' ⟨rfl, rfl⟩)
    go_ret
    exact ⟨ret_int HE.out.symm, rfl⟩
  · cases h2 : effB s
    · have HE : Hid (codeD xs s t = 1) := by show codeD _ _ _ = _; simp [codeD, deB, h1, h2]
      go_enter Try.func65, Try.ntmps65
      go_wp2_with (first | (go_at_call 71; refine (sAreDeviations_c _ _ _ _ H.out hl).mono ?_; rintro e w' ⟨rfl, rfl⟩) | (go_at_call 33; refine (sIsEffect_c _ _ _ _ HS.out hl2).mono ?_; rintro e w' ⟨rfl, rfl⟩))
      go_ret
      exact ⟨ret_int HE.out.symm, rfl⟩
    · cases h3 : inB t 0 500
      · have HE : Hid (codeD xs s t = 2) := by show codeD _ _ _ = _; simp [codeD, deB, h1, h2, h3]
        go_enter Try.func65, Try.ntmps65
        go_wp2_with (first | (go_at_call 71; refine (sAreDeviations_c _ _ _ _ H.out hl).mono ?_; rintro e w' ⟨rfl, rfl⟩) | (go_at_call 33; refine (sIsEffect_c _ _ _ _ HS.out hl2).mono ?_; rintro e w' ⟨rfl, rfl⟩) | (go_at_call 72; refine (l01In_c _ _ _ _).mono ?_; rintro e w' ⟨rfl, rfl⟩))
        go_ret
        exact ⟨ret_int HE.out.symm, rfl⟩
      · have HE : Hid (codeD xs s t = 0) := by show codeD _ _ _ = _; simp [codeD, deB, h1, h2, h3]
        go_enter Try.func65, Try.ntmps65
        go_wp2_with (first | (go_at_call 71; refine (sAreDeviations_c _ _ _ _ H.out hl).mono ?_; rintro e w' ⟨rfl, rfl⟩) | (go_at_call 33; refine (sIsEffect_c _ _ _ _ HS.out hl2).mono ?_; rintro e w' ⟨rfl, rfl⟩) | (go_at_call 72; refine (l01In_c _ _ _ _).mono ?_; rintro e w' ⟨rfl, rfl⟩))
        go_ret
        exact ⟨ret_int HE.out.symm, rfl⟩
theorem l08Plan_c (a : Option Addr) (c : Nat) (xs : List Int) (w : World) (h : IntsAt w a xs) (hl : xs.length ≤ 1048576) :
    Calls Try.prog 69 #[.slice a xs.length c] w fun e w' => e = .returned (.bool (allB xs (-100) 100)) ∧ w = w' := by
  have H := Lib.hid h; clear h
  go_enter Try.func69, Try.ntmps69
  go_wp2
  go_loop [3] (fun i => ∃ k : Nat, k ≤ xs.length ∧ i = .int .i64 k ∧ Hid (allB (xs.take k) (-100) 100 = true)) (fun i => xs.length - (intOf i).toNat)
  case atStart => exact ⟨0, by omega, rfl, rfl⟩
  case round =>
    obtain ⟨k, hk, rfl, HA⟩ := hrel
    by_cases hlt : k < xs.length
    · obtain ⟨b, off, x, rfl, hc, hx⟩ := H.out.get hlt
      cases hi : inB x (-100) 100
      · have HN := Lib.hid (allB_f hx.out hi)
        go_wp2_with (go_at_call 72; refine (l01In_c _ _ _ _).mono ?_; rintro e w' ⟨rfl, rfl⟩)
        go_ret
        exact ⟨ret_bool HN.out.symm, rfl⟩
      · have HN := Lib.hid (allB_step hx.out HA.out hi)
        go_wp2_with (go_at_call 72; refine (l01In_c _ _ _ _).mono ?_; rintro e w' ⟨rfl, rfl⟩)
        go_round
        case rel => exact ⟨k + 1, by omega, by go_num, HN⟩
        case measure => simp [intOf]; omega
    · obtain rfl : k = xs.length := by omega
      have HN : Hid (allB xs (-100) 100 = true) := by have := HA.out; rwa [List.take_length] at this
      go_wp2
      go_ret
      exact ⟨ret_bool HN.out.symm, rfl⟩
theorem inB_abs (x t : Int) : inB x (-t) t = decide (iabs x ≤ t) := by
  unfold inB iabs; rw [Bool.eq_iff_iff, decide_eq_true_iff, decide_eq_true_iff]; split <;> omega
theorem l08True_c (a : Option Addr) (c : Nat) (xs : List Int) (t : Int) (w : World) (h : IntsAt w a xs) (hl : xs.length ≤ 1048576) (hb : AllLe 1000000000000 xs) :
    Calls Try.prog 88 #[.slice a xs.length c, .int .i64 t] w fun e w' => e = .returned (.bool (allB xs (-t) t)) ∧ w = w' := by
  have H := Lib.hid h; clear h
  have HB := Lib.hid hb; clear hb
  go_enter Try.func88, Try.ntmps88
  go_wp2
  go_loop [5] (fun i => ∃ k : Nat, k ≤ xs.length ∧ i = .int .i64 k ∧ Hid (allB (xs.take k) (-t) t = true)) (fun i => xs.length - (intOf i).toNat)
  case atStart => exact ⟨0, by omega, rfl, rfl⟩
  case round =>
    obtain ⟨k, hk, rfl, HA⟩ := hrel
    by_cases hlt : k < xs.length
    · obtain ⟨b, off, x, rfl, hc, hx⟩ := H.out.get hlt
      have hx1 := HB.out x (mem_of_get hx.out)
      by_cases hi : t < iabs x
      · have HN : Hid (allB xs (-t) t = false) := allB_f hx.out (by rw [inB_abs]; exact decide_eq_false (by omega))
        go_wp2_with (go_at_call 78; refine (l01Abs_c _ _ (by omega)).mono ?_; rintro e w' ⟨rfl, rfl⟩)
        go_ret
        exact ⟨ret_bool HN.out.symm, rfl⟩
      · have HN : Hid (allB (xs.take (k + 1)) (-t) t = true) := allB_step hx.out HA.out (by rw [inB_abs]; exact decide_eq_true (by omega))
        go_wp2_with (go_at_call 78; refine (l01Abs_c _ _ (by omega)).mono ?_; rintro e w' ⟨rfl, rfl⟩)
        go_round
        case rel => exact ⟨k + 1, by omega, by go_num, HN⟩
        case measure => simp [intOf]; omega
    · obtain rfl : k = xs.length := by omega
      have HN : Hid (allB xs (-t) t = true) := by have := HA.out; rwa [List.take_length] at this
      go_wp2
      go_ret
      exact ⟨ret_bool HN.out.symm, rfl⟩
end Go.Proofs.Ytiiljmaianfdeaa
