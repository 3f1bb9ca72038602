/- Chapter 9: rising numbers of teeth. -/
import Derived.Test.YtjnkckpebfafjaaTens
namespace Go.Proofs.Ytjnkckpebfafjaa
open Go.RowKit
set_option linter.unusedVariables false
set_option linter.unusedSimpArgs false

/-- The first k rise. -/
def Inc (xs : List Int) (k : Nat) : Prop := ∀ j, j + 1 < k → xs.getD j 0 < xs.getD (j + 1) 0
theorem Inc.next {xs : List Int} {k : Nat} (h : Inc xs k) (hk : 0 < k) (hx : xs.getD (k - 1) 0 < xs.getD k 0) : Inc xs (k + 1) := by
  intro j hj
  by_cases e : j + 1 = k
  · obtain rfl : j = k - 1 := by omega
    rw [show k - 1 + 1 = k by omega]; exact hx
  · exact h j (by omega)
theorem Inc.small (xs : List Int) {k : Nat} (hk : k ≤ 1) : Inc xs k := fun j hj => by omega
/-- Teeth: rising, in their range, not too many. -/
def Teeth (xs : List Int) (most : Nat) (lo hi : Int) : Prop := (1 ≤ xs.length ∧ xs.length ≤ most) ∧ allB xs lo hi = true ∧ Inc xs xs.length
noncomputable def teethB (xs : List Int) (most : Nat) (lo hi : Int) : Bool := @decide (Teeth xs most lo hi) (Classical.propDecidable _)
theorem teethB_t {xs : List Int} {most : Nat} {lo hi : Int} (h : Teeth xs most lo hi) : teethB xs most lo hi = true := by unfold teethB; exact @decide_eq_true _ (Classical.propDecidable _) h
theorem teethB_f {xs : List Int} {most : Nat} {lo hi : Int} (h : ¬ Teeth xs most lo hi) : teethB xs most lo hi = false := by unfold teethB; exact @decide_eq_false _ (Classical.propDecidable _) h
theorem teethB_is {xs : List Int} {most : Nat} {lo hi : Int} (h : teethB xs most lo hi = true) : Teeth xs most lo hi := by unfold teethB at h; exact @of_decide_eq_true _ (Classical.propDecidable _) h
theorem not_inc {xs : List Int} {k : Nat} (hk : 0 < k) (hl : k < xs.length) (hx : ¬ xs.getD (k - 1) 0 < xs.getD k 0) : ¬ Inc xs xs.length := by
  intro h
  have := h (k - 1) (by omega)
  rw [show k - 1 + 1 = k by omega] at this
  exact hx this
set_option maxHeartbeats 800000 in
theorem areTeeth_c (a : Option Addr) (c : Nat) (xs : List Int) (most : Nat) (lo hi : Int) (w : World) (h : IntsAt w a xs) (hl : xs.length ≤ 1048576) (hm : most ≤ 100) :
    Calls Try.prog 49 #[.slice a xs.length c, .int .i64 (most : Int), .int .i64 lo, .int .i64 hi] w fun e w' => e = .returned (.bool (teethB xs most lo hi)) ∧ Upd [] w w' := by
  have H : Hid (∀ w', Upd [] w w' → IntsAt w' a xs) := fun w' u => h.kept0 u
  clear h
  by_cases h1 : 1 ≤ xs.length ∧ xs.length ≤ most
  · obtain ⟨h1a, h1b⟩ := h1
    have i1 : 1 ≤ (xs.length : Int) := by omega
    have i2 : (xs.length : Int) ≤ (most : Int) := by omega
    cases h2 : allB xs lo hi
    · have HN : Hid (teethB xs most lo hi = false) := teethB_f fun t => by have := t.2.1; rw [h2] at this; exact absurd this (by simp)
      go_enter Try.func49, Try.ntmps49
      go_wp2_with (go_at_call 58; refine (allWithin_c _ _ _ _ _ _ (H.out _ (Upd.refl w)) hl).mono ?_; rintro e w' ⟨rfl, rfl⟩)
      go_ret
      exact ⟨ret_bool HN.out.symm, Upd.refl w⟩
    · have HT : Hid (Inc xs xs.length → teethB xs most lo hi = true) := fun t => teethB_t ⟨⟨h1a, h1b⟩, h2, t⟩
      have HN : Hid (¬ Inc xs xs.length → teethB xs most lo hi = false) := fun t => teethB_f fun u => t u.2.2
      go_enter Try.func49, Try.ntmps49
      go_wp2_with (go_at_call 58; refine (allWithin_c _ _ _ _ _ _ (H.out _ (Upd.refl w)) hl).mono ?_; rintro e w' ⟨rfl, rfl⟩)
      go_loopw [9] (fun i wr => ∃ k : Nat, 1 ≤ k ∧ k ≤ xs.length ∧ i = .int .i64 k ∧ Hid (Inc xs k) ∧ Hid (Upd [] w wr)) (fun i _ => xs.length - (intOf i).toNat)
      case atStart => exact ⟨1, by omega, by omega, rfl, Inc.small xs (Nat.le_refl _), Upd.refl w⟩
      case round =>
        obtain ⟨k, hk1, hk, rfl, HI, HU⟩ := hrel
        by_cases hlt : k < xs.length
        · obtain ⟨b, off, x, rfl, hc, hx⟩ := (H.out _ HU.out).get hlt
          obtain ⟨b', off', y, e', hc2, hy⟩ := (H.out _ HU.out).get (k := k - 1) (by omega)
          cases e'
          have gx : xs.getD k 0 = x := by rw [List.getD_eq_getElem?_getD, hx.out]; rfl
          have gy : xs.getD (k - 1) 0 = y := by rw [List.getD_eq_getElem?_getD, hy.out]; rfl
          have hw1 : IntKind.i64.wrap ((k : Int) - 1) = (k : Int) - 1 := IntWalk.i64_in _ (by omega)
          have i3 : (0 : Int) ≤ (k : Int) - 1 := by omega
          have i4 : (k : Int) - 1 < (xs.length : Int) := by omega
          have i5 : (k : Int) < (xs.length : Int) := by omega
          have HW := Lib.hid hw1
          by_cases hxy : y < x
          · have HN2 := Lib.hid (HI.out.next hk1 (by rw [gx, gy]; exact hxy))
            clear gx gy hw1
            go_wp2
            have hw1 := HW.out
            go_quiet (fail)
            clear hw1
            go_wp2
            go_roundw
            case rel => exact ⟨k + 1, by omega, by omega, by go_num, HN2, (HU.out).drewN _⟩
            case measure => simp [intOf]; omega
          · have HF := Lib.hid (HN.out (not_inc hk1 hlt (by rw [gx, gy]; exact hxy)))
            clear gx gy hw1
            go_wp2
            have hw1 := HW.out
            go_quiet (fail)
            clear hw1
            go_wp2
            go_ret
            exact ⟨ret_bool HF.out.symm, (HU.out).drewN _⟩
        · obtain rfl : k = xs.length := by omega
          have HF := Lib.hid (HT.out HI.out)
          go_wp2
          go_ret
          exact ⟨ret_bool HF.out.symm, HU.out⟩
  · have HN : Hid (teethB xs most lo hi = false) := teethB_f fun t => h1 t.1
    by_cases h3 : xs.length < 1
    · have i1 : (xs.length : Int) < 1 := by omega
      clear h1
      go_enter Try.func49, Try.ntmps49
      go_wp2_with fail
      go_ret
      exact ⟨ret_bool HN.out.symm, Upd.refl w⟩
    · have i1 : ¬ (xs.length : Int) < 1 := by omega
      have i2 : (most : Int) < (xs.length : Int) := by omega
      clear h1
      go_enter Try.func49, Try.ntmps49
      go_wp2_with fail
      go_ret
      exact ⟨ret_bool HN.out.symm, Upd.refl w⟩
set_option maxHeartbeats 1600000 in
theorem l09Teeth_c (a : Option Addr) (c : Nat) (xs : List Int) (most : Nat) (lo hi : Int) (w : World) (h : IntsAt w a xs) (hl : xs.length ≤ 1048576) (hm : most ≤ 100) :
    Calls Try.prog 56 #[.slice a xs.length c, .int .i64 (most : Int), .int .i64 lo, .int .i64 hi] w fun e w' => e = .returned (.bool (teethB xs most lo hi)) ∧ Upd [] w w' := by
  have H : Hid (∀ w', Upd [] w w' → IntsAt w' a xs) := fun w' u => h.kept0 u
  clear h
  go_enter Try.func56, Try.ntmps56
  go_wp2
  go_loopw [9] (fun i wr => ∃ k : Nat, k ≤ xs.length ∧ i = .int .i64 k ∧ Hid (Inc xs k ∧ allB (xs.take k) lo hi = true) ∧ Hid (Upd [] w wr)) (fun i _ => xs.length - (intOf i).toNat)
  case atStart => exact ⟨0, by omega, rfl, ⟨Inc.small xs (by omega), rfl⟩, Upd.refl w⟩
  case round =>
    obtain ⟨k, hk, rfl, HI, HU⟩ := hrel
    by_cases hlt : k < xs.length
    · obtain ⟨b, off, x, rfl, hc, hx⟩ := (H.out _ HU.out).get hlt
      have i5 : (k : Int) < (xs.length : Int) := by omega
      cases h3 : inB x lo hi
      · have HF : Hid (teethB xs most lo hi = false) := teethB_f fun t => by have := t.2.1; rw [allB_f hx.out h3] at this; exact absurd this (by simp)
        go_wp2
        go_quiet ((go_at_call 39; exact quiet0 (l01In_c _ _ _ _)))
        go_wp2
        go_ret
        exact ⟨ret_bool HF.out.symm, (HU.out).drewN _⟩
      · have HA := Lib.hid (allB_step hx.out HI.out.2 h3)
        by_cases hk0 : k = 0
        · have hd : decide (0 < k) = false := by rw [hk0]; rfl
          have HN : Hid (Inc xs (k + 1)) := Inc.small xs (by omega)
          clear hk0
          go_wp2
          go_quiet ((go_at_call 39; exact quiet0 (l01In_c _ _ _ _)))
          go_wp2
          go_roundw
          case rel => exact ⟨k + 1, by omega, by go_num, ⟨HN.out, HA.out⟩, (HU.out).drewN _⟩
          case measure => simp [intOf]; omega
        · have hk1 : 0 < k := by omega
          obtain ⟨b', off', y, e', hc2, hy⟩ := (H.out _ HU.out).get (k := k - 1) (by omega)
          cases e'
          have gx : xs.getD k 0 = x := by rw [List.getD_eq_getElem?_getD, hx.out]; rfl
          have gy : xs.getD (k - 1) 0 = y := by rw [List.getD_eq_getElem?_getD, hy.out]; rfl
          have hw1 : IntKind.i64.wrap ((k : Int) - 1) = (k : Int) - 1 := IntWalk.i64_in _ (by omega)
          have i3 : (0 : Int) ≤ (k : Int) - 1 := by omega
          have i4 : (k : Int) - 1 < (xs.length : Int) := by omega
          have HW := Lib.hid hw1
          clear hk0
          by_cases hxy : y < x
          · have HN2 := Lib.hid (HI.out.1.next hk1 (by rw [gx, gy]; exact hxy))
            clear gx gy hw1
            go_wp2
            have hw1 := HW.out
            go_quiet ((go_at_call 39; exact quiet0 (l01In_c _ _ _ _)))
            clear hw1
            go_wp2
            go_roundw
            case rel => exact ⟨k + 1, by omega, by go_num, ⟨HN2.out, HA.out⟩, (HU.out).drewN _⟩
            case measure => simp [intOf]; omega
          · have HF : Hid (teethB xs most lo hi = false) := teethB_f fun t => not_inc hk1 hlt (by rw [gx, gy]; exact hxy) t.2.2
            clear gx gy hw1
            go_wp2
            have hw1 := HW.out
            go_quiet ((go_at_call 39; exact quiet0 (l01In_c _ _ _ _)))
            clear hw1
            go_wp2
            go_ret
            exact ⟨ret_bool HF.out.symm, (HU.out).drewN _⟩
    · obtain rfl : k = xs.length := by omega
      have HA : Hid (allB xs lo hi = true) := by have := HI.out.2; rwa [List.take_length] at this
      by_cases h1 : 1 ≤ xs.length
      · by_cases h2 : xs.length ≤ most
        · have HT : Hid (teethB xs most lo hi = true) := teethB_t ⟨⟨h1, h2⟩, HA.out, HI.out.1⟩
          have i1 : 1 ≤ (xs.length : Int) := by omega
          have i2 : (xs.length : Int) ≤ (most : Int) := by omega
          go_wp2
          go_ret
          exact ⟨ret_bool HT.out.symm, HU.out⟩
        · have HF : Hid (teethB xs most lo hi = false) := teethB_f fun t => h2 t.1.2
          have i1 : 1 ≤ (xs.length : Int) := by omega
          have i2 : ¬ (xs.length : Int) ≤ (most : Int) := by omega
          go_wp2
          go_ret
          exact ⟨ret_bool HF.out.symm, HU.out⟩
      · have HF : Hid (teethB xs most lo hi = false) := teethB_f fun t => h1 t.1.1
        have i1 : ¬ 1 ≤ (xs.length : Int) := by omega
        go_wp2
        go_ret
        exact ⟨ret_bool HF.out.symm, HU.out⟩
end Go.Proofs.Ytjnkckpebfafjaa
