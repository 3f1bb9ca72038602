/- Chapter 5: stocks of spokes; ChooseSpoke. -/
import Derived.Test.YtbjeaadnanimfaaStockL
namespace Go.Proofs.Ytbjeaadnanimfaa
open Go.RowKit
set_option linter.unusedVariables false
set_option linter.unusedSimpArgs false

set_option maxHeartbeats 800000 in
theorem isStock_c (a : Option Addr) (c : Nat) (xs : List Int) (w : World) (h : IntsAt w a xs) (hl : xs.length ≤ 1048576) :
    Calls Try.prog 37 #[.slice a xs.length c] w fun e w' => e = .returned (.bool (stkB xs)) ∧ w = w' := by
  have H := Lib.hid h
  clear h
  by_cases h30 : xs.length ≤ 30
  case neg =>
    have HN := Lib.hid (stkB_long h30)
    have i1 : (30 : Int) < (xs.length : Int) := by omega
    clear h30
    go_enter Try.func37, Try.ntmps37
    go_wp2_with fail
    go_ret
    exact ⟨ret_bool HN.out.symm, rfl⟩
  have HB : Hid (¬ Rises xs → stkB xs = false) := fun t => stkB_bad (riseB_f t)
  have HT : Hid (Rises xs → stkB xs = true) := fun t => stkB_mk (riseB_t t) h30
  have i1 : ¬ (30 : Int) < (xs.length : Int) := by omega
  go_enter Try.func37, Try.ntmps37
  go_wp2_with fail
  go_loop [10] (fun i => ∃ k : Nat, k ≤ xs.length ∧ i = .int .i64 k ∧ Hid (Inc xs k ∧ allB (xs.take k) 0 5000 = true)) (fun i => xs.length - (intOf i).toNat)
  case atStart => exact ⟨0, by omega, rfl, ⟨Inc.small xs (by omega), rfl⟩⟩
  case round =>
    obtain ⟨k, hk, rfl, HI⟩ := hrel
    by_cases hlt : k < xs.length
    · obtain ⟨b, off, x, rfl, hc, hx⟩ := H.out.get hlt
      have i5 : (k : Int) < (xs.length : Int) := by omega
      cases h3 : inB x 0 5000
      · have HF : Hid (stkB xs = false) := HB.out fun t => by have := t.1; rw [allB_f hx.out h3] at this; exact absurd this (by simp)
        go_wp2_with (go_at_call 38; refine (within_c _ _ _ _).mono ?_; rintro e w' ⟨rfl, rfl⟩)
        go_ret
        exact ⟨ret_bool HF.out.symm, rfl⟩
      · have HA := Lib.hid (allB_step hx.out HI.out.2 h3)
        by_cases hk0 : k = 0
        · have hd : decide (0 < k) = false := by rw [hk0]; rfl
          have HN : Hid (Inc xs (k + 1)) := Inc.small xs (by omega)
          clear hk0
          go_wp2_with (go_at_call 38; refine (within_c _ _ _ _).mono ?_; rintro e w' ⟨rfl, rfl⟩)
          go_round
          case rel => exact ⟨k + 1, by omega, by go_num, ⟨HN.out, HA.out⟩⟩
          case measure => simp [intOf]; omega
        · have hk1 : 0 < k := by omega
          obtain ⟨b', off', y, e', hc2, hy⟩ := H.out.get (k := k - 1) (by omega)
          cases e'
          have gx : xs.getD k 0 = x := by rw [List.getD_eq_getElem?_getD, hx.out]; rfl
          have gy : xs.getD (k - 1) 0 = y := by rw [List.getD_eq_getElem?_getD, hy.out]; rfl
          have hw1 : IntKind.i64.wrap ((k : Int) - 1) = (k : Int) - 1 := IntWalk.i64_in _ (by omega)
          have i3 : (0 : Int) ≤ (k : Int) - 1 := by omega
          have i4 : (k : Int) - 1 < (xs.length : Int) := by omega
          clear hk0
          by_cases hxy : y < x
          · have HN2 := Lib.hid (HI.out.1.next hk1 (by rw [gx, gy]; exact hxy))
            clear gx gy
            go_wp2_with (go_at_call 38; refine (within_c _ _ _ _).mono ?_; rintro e w' ⟨rfl, rfl⟩)
            go_round
            case rel => exact ⟨k + 1, by omega, by go_num, ⟨HN2.out, HA.out⟩⟩
            case measure => simp [intOf]; omega
          · have HF : Hid (stkB xs = false) := HB.out fun t => not_inc hk1 hlt (by rw [gx, gy]; exact hxy) t.2
            clear gx gy
            go_wp2_with (go_at_call 38; refine (within_c _ _ _ _).mono ?_; rintro e w' ⟨rfl, rfl⟩)
            go_ret
            exact ⟨ret_bool HF.out.symm, rfl⟩
    · obtain rfl : k = xs.length := by omega
      have HF : Hid (stkB xs = true) := HT.out ⟨by have := HI.out.2; rwa [List.take_length] at this, HI.out.1⟩
      go_wp2_with fail
      go_ret
      exact ⟨ret_bool HF.out.symm, rfl⟩
set_option maxHeartbeats 800000 in
theorem l01Rises_c (a : Option Addr) (c : Nat) (xs : List Int) (w : World) (h : IntsAt w a xs) (hl : xs.length ≤ 1048576) :
    Calls Try.prog 62 #[.slice a xs.length c, .int .i64 5001] w fun e w' => e = .returned (.bool (riseB xs)) ∧ Upd [] w w' := by
  have H : Hid (∀ w', Upd [] w w' → IntsAt w' a xs) := fun w' u => h.kept0 u
  clear h
  have hw5 : IntKind.i64.wrap (5001 - 1) = 5000 := IntWalk.i64_in _ (by omega)
  have HW5 := Lib.hid hw5
  clear hw5
  go_enter Try.func62, Try.ntmps62
  go_wp2
  go_loopw [5] (fun i wr => ∃ k : Nat, k ≤ xs.length ∧ i = .int .i64 k ∧ Hid (Inc xs k ∧ allB (xs.take k) 0 5000 = true) ∧ Hid (Upd [] w wr)) (fun i _ => xs.length - (intOf i).toNat)
  case atStart => exact ⟨0, by omega, rfl, ⟨Inc.small xs (by omega), rfl⟩, Upd.refl w⟩
  case round =>
    obtain ⟨k, hk, rfl, HI, HU⟩ := hrel
    by_cases hlt : k < xs.length
    · obtain ⟨b, off, x, rfl, hc, hx⟩ := (H.out _ HU.out).get hlt
      have i5 : (k : Int) < (xs.length : Int) := by omega
      cases h3 : inB x 0 5000
      · have HF : Hid (riseB xs = false) := riseB_f fun t => by have := t.1; rw [allB_f hx.out h3] at this; exact absurd this (by simp)
        go_wp2
        go_quiet ((go_at_call 41; exact quiet0 (l01In_c _ _ _ _)))
        go_wp2
        go_ret
        exact ⟨ret_bool HF.out.symm, (HU.out).drewN _⟩
      · have HA := Lib.hid (allB_step hx.out HI.out.2 h3)
        by_cases hk0 : k = 0
        · have hd : decide (0 < k) = false := by rw [hk0]; rfl
          have HN : Hid (Inc xs (k + 1)) := Inc.small xs (by omega)
          clear hk0
          go_wp2
          go_quiet ((go_at_call 41; exact quiet0 (l01In_c _ _ _ _)))
          go_wp2
          go_roundw
          case rel => exact ⟨k + 1, by omega, by go_num, ⟨HN.out, HA.out⟩, (HU.out).drewN _⟩
          case measure => simp [intOf]; omega
        · have hk1 : 0 < k := by omega
          obtain ⟨b', off', y, e', hc2, hy⟩ := (H.out _ HU.out).get (k := k - 1) (by omega)
          cases e'
          have gx : xs.getD k 0 = x := by rw [List.getD_eq_getElem?_getD, hx.out]; rfl
          have gy : xs.getD (k - 1) 0 = y := by rw [List.getD_eq_getElem?_getD, hy.out]; rfl
          have hw1 : IntKind.i64.wrap ((k : Int) - 1) = (k : Int) - 1 := IntWalk.i64_in _ (by omega)
          have i3 : (0 : Int) ≤ (k : Int) - 1 := by omega
          have i4 : (k : Int) - 1 < (xs.length : Int) := by omega
          have HW := Lib.hid hw1
          clear hk0
          by_cases hxy : y < x
          · have HN2 := Lib.hid (HI.out.1.next hk1 (by rw [gx, gy]; exact hxy))
            clear gx gy hw1
            go_wp2
            have hw1 := HW.out
            go_quiet ((go_at_call 41; exact quiet0 (l01In_c _ _ _ _)))
            clear hw1
            go_wp2
            go_roundw
            case rel => exact ⟨k + 1, by omega, by go_num, ⟨HN2.out, HA.out⟩, (HU.out).drewN _⟩
            case measure => simp [intOf]; omega
          · have HF : Hid (riseB xs = false) := riseB_f fun t => not_inc hk1 hlt (by rw [gx, gy]; exact hxy) t.2
            clear gx gy hw1
            go_wp2
            have hw1 := HW.out
            go_quiet ((go_at_call 41; exact quiet0 (l01In_c _ _ _ _)))
            clear hw1
            go_wp2
            go_ret
            exact ⟨ret_bool HF.out.symm, (HU.out).drewN _⟩
    · obtain rfl : k = xs.length := by omega
      have HF : Hid (riseB xs = true) := riseB_t ⟨by have := HI.out.2; rwa [List.take_length] at this, HI.out.1⟩
      go_wp2
      go_ret
      exact ⟨ret_bool HF.out.symm, HU.out⟩
set_option maxHeartbeats 400000 in
theorem l05Stock_c (a : Option Addr) (c : Nat) (xs : List Int) (w : World) (h : IntsAt w a xs) (hl : xs.length ≤ 1048576) :
    Calls Try.prog 40 #[.slice a xs.length c] w fun e w' => e = .returned (.bool (stkB xs)) ∧ Upd [] w w' := by
  have H := Lib.hid h
  clear h
  go_enter Try.func40, Try.ntmps40
  go_wp2_with fail
  refine (l01Rises_c a c xs _ H.out hl).mono ?_
  rintro e w1 ⟨rfl, hu⟩
  have U := Lib.hid hu
  clear hu
  cases q : riseB xs
  · have HN := Lib.hid (stkB_bad q)
    go_wp2_with fail
    go_ret
    exact ⟨ret_bool HN.out.symm, U.out⟩
  · by_cases h30 : xs.length ≤ 30
    · have HN := Lib.hid (stkB_mk q h30)
      have i1 : (xs.length : Int) ≤ 30 := by omega
      clear q
      go_wp2_with fail
      go_ret
      exact ⟨ret_bool HN.out.symm, U.out⟩
    · have HN := Lib.hid (stkB_long h30)
      have i1 : ¬ (xs.length : Int) ≤ 30 := by omega
      clear q
      go_wp2_with fail
      go_ret
      exact ⟨ret_bool ((decide_eq_false (Int.not_le.2 i1)).trans HN.out.symm), U.out⟩
set_option maxHeartbeats 400000 in
theorem chooseSpoke_c (a : Option Addr) (c : Nat) (xs : List Int) (len : Int) (w : World) (h : IntsAt w a xs) (hl : xs.length ≤ 1048576) (hb : 0 ≤ len ∧ len ≤ 5000) :
    Calls Try.prog 39 #[.slice a xs.length c, .int .i64 len] w fun e w' => e = .returned (.int .i64 (chF xs len)) ∧ w = w' := by
  have H := Lib.hid h
  clear h
  have hw1 : IntKind.i64.wrap (len - 20) = len - 20 := IntWalk.i64_in _ (by omega)
  have hw2 : IntKind.i64.wrap (len + 10) = len + 10 := IntWalk.i64_in _ (by omega)
  go_enter Try.func39, Try.ntmps39
  go_wp2_with fail
  go_loop [5, 10] (fun p0 i => ∃ (k : Nat) (p : Int), k ≤ xs.length ∧ i = .int .i64 k ∧ p0 = .int .i64 p ∧ Hid (chN xs len k = p)) (fun _ i => xs.length - (intOf i).toNat)
  case atStart => exact ⟨0, -1, by omega, rfl, rfl, rfl⟩
  case round =>
    obtain ⟨k, p, hk, rfl, rfl, HP⟩ := hrel
    by_cases hlt : k < xs.length
    · obtain ⟨b, off, x, rfl, hc, hx⟩ := H.out.get hlt
      have i5 : (k : Int) < (xs.length : Int) := by omega
      cases q : inB x (len - 20) (len + 10)
      · have HN := Lib.hid ((chN_no hx.out q).trans HP.out)
        go_wp2_with (go_at_call 38; refine (within_c _ _ _ _).mono ?_; rintro e w' ⟨rfl, rfl⟩)
        go_round
        case rel => exact ⟨k + 1, _, by omega, by go_num, rfl, HN⟩
        case measure => simp [intOf]; omega
      · have HN := Lib.hid (chN_yes hx.out q)
        go_wp2_with (go_at_call 38; refine (within_c _ _ _ _).mono ?_; rintro e w' ⟨rfl, rfl⟩)
        go_round
        case rel => exact ⟨k + 1, _, by omega, by go_num, rfl, HN⟩
        case measure => simp [intOf]; omega
    · obtain rfl : k = xs.length := by omega
      go_wp2_with fail
      go_ret
      exact ⟨ret_int HP.out.symm, rfl⟩
set_option maxHeartbeats 400000 in
theorem l05Choose_c (a : Option Addr) (c : Nat) (xs : List Int) (len : Int) (w : World) (h : IntsAt w a xs) (hl : xs.length ≤ 1048576) (hb : 0 ≤ len ∧ len ≤ 5000) :
    Calls Try.prog 42 #[.slice a xs.length c, .int .i64 len] w fun e w' => e = .returned (.int .i64 (chF xs len)) ∧ w = w' := by
  have H := Lib.hid h
  clear h
  have hw1 : IntKind.i64.wrap (len - 20) = len - 20 := IntWalk.i64_in _ (by omega)
  have hw2 : IntKind.i64.wrap (len + 10) = len + 10 := IntWalk.i64_in _ (by omega)
  have hw3 : IntKind.i64.wrap ((xs.length : Int) - 1) = (xs.length : Int) - 1 := IntWalk.i64_in _ (by omega)
  go_enter Try.func42, Try.ntmps42
  go_wp2_with fail
  clear hw3
  go_loop [5] (fun i => ∃ k : Nat, k ≤ xs.length ∧ i = .int .i64 ((k : Int) - 1) ∧ Hid (chN xs len k = chF xs len)) (fun i => (intOf i + 1).toNat)
  case atStart => exact ⟨xs.length, by omega, rfl, rfl⟩
  case round =>
    obtain ⟨k, hk, rfl, HP⟩ := hrel
    cases k with
    | succ k =>
      obtain ⟨b, off, x, rfl, hc, hx⟩ := H.out.get (k := k) (by omega)
      have e1 : ((k + 1 : Nat) : Int) - 1 = (k : Int) := by omega
      have i5 : (k : Int) < (xs.length : Int) := by omega
      have i6 : (0 : Int) ≤ (k : Int) := by omega
      rw [e1]
      have hw4 : IntKind.i64.wrap ((k : Int) - 1) = (k : Int) - 1 := IntWalk.i64_in _ (by omega)
      cases q : inB x (len - 20) (len + 10)
      · have HN := Lib.hid ((chN_no hx.out q).symm.trans HP.out)
        go_wp2_with (go_at_call 41; refine (l01In_c _ _ _ _).mono ?_; rintro e w' ⟨rfl, rfl⟩)
        go_round
        case rel => exact ⟨k, by omega, rfl, HN⟩
        case measure => simp [intOf]
      · have HN := Lib.hid ((chN_yes hx.out q).symm.trans HP.out)
        go_wp2_with (go_at_call 41; refine (l01In_c _ _ _ _).mono ?_; rintro e w' ⟨rfl, rfl⟩)
        go_ret
        exact ⟨ret_int HN.out, rfl⟩
    | zero =>
      go_wp2_with fail
      go_ret
      exact ⟨ret_int HP.out, rfl⟩
end Go.Proofs.Ytbjeaadnanimfaa
