/- The contracts of chapter 7: stiffness, turns for a mean, out of a band, spread. -/
import Derived.Test.YtdjdddepplaagaaTens
namespace Go.Proofs.Ytdjdddepplaagaa
open Go.RowKit
set_option linter.unusedVariables false
set_option linter.unusedSimpArgs false

theorem stiffB_no1 {s : List Int} (h : allB s (-200) 200 = false) : stiffB s = false := by simp [stiffB, areB, h]
theorem stiffB_no2 {s : List Int} (h : inB s.length 1 4 = false) : stiffB s = false := by simp [stiffB, areB, h]
theorem stiffB_no3 {s : List Int} (h : ¬ 0 < s.getD 0 0) : stiffB s = false := by simp only [stiffB, decide_eq_false h]; simp
theorem stiffB_no4 {s : List Int} (h : ¬ 0 < gainF s) : stiffB s = false := by simp only [stiffB, decide_eq_false h]; simp
theorem stiffB_yes {s : List Int} (h1 : allB s (-200) 200 = true) (h2 : inB s.length 1 4 = true) (h3 : 0 < s.getD 0 0) (h4 : 0 < gainF s) : stiffB s = true := by
  simp only [stiffB, areB, h1, h2, decide_eq_true h3, decide_eq_true h4]; rfl
set_option maxHeartbeats 400000 in
theorem sIsStiffness_c (a : Option Addr) (c : Nat) (s : List Int) (w : World) (h : IntsAt w a s) (hl : s.length ≤ 1048576) :
    Calls Try.prog 51 #[.slice a s.length c] w fun e w' => e = .returned (.bool (stiffB s)) ∧ Dr w w' := by
  have H := Lib.hid h; clear h
  go_enter Try.func51, Try.ntmps51
  go_wp2
  go_loop [3] (fun i => ∃ k : Nat, k ≤ s.length ∧ i = .int .i64 k ∧ Hid (allB (s.take k) (-200) 200 = true)) (fun i => s.length - (intOf i).toNat)
  case atStart => exact ⟨0, by omega, rfl, rfl⟩
  case round =>
    obtain ⟨k, hk, rfl, HA⟩ := hrel
    by_cases hlt : k < s.length
    · obtain ⟨b, off, x, rfl, hc, hx⟩ := H.out.get hlt
      cases hi : inB x (-200) 200
      · have HN := Lib.hid (stiffB_no1 (allB_f hx.out hi))
        go_wp2_with (go_at_call 98; refine (l01In_c _ _ _ _).mono ?_; rintro e w' ⟨rfl, rfl⟩)
        go_ret
        exact ⟨ret_bool HN.out.symm, Dr.refl _⟩
      · have HN := Lib.hid (allB_step hx.out HA.out hi)
        go_wp2_with (go_at_call 98; refine (l01In_c _ _ _ _).mono ?_; rintro e w' ⟨rfl, rfl⟩)
        go_round
        case rel => exact ⟨k + 1, by omega, by go_num, HN⟩
        case measure => simp [intOf]; omega
    · obtain rfl : k = s.length := by omega
      have HA1 : Hid (allB s (-200) 200 = true) := by have := HA.out; rwa [List.take_length] at this
      clear HA
      cases hi : inB s.length 1 4
      · have HN := Lib.hid (stiffB_no2 hi)
        go_wp2_with (go_at_call 98; refine (l01In_c _ _ _ _).mono ?_; rintro e w' ⟨rfl, rfl⟩)
        go_ret
        exact ⟨ret_bool HN.out.symm, Dr.refl _⟩
      · have hl2 := inB_t hi
        obtain ⟨b, off, x, rfl, hc, hx⟩ := H.out.get (k := 0) (by omega)
        rw [Nat.add_zero] at hc
        have hgx : s.getD 0 0 = x := by rw [List.getD_eq_getElem?_getD, hx.out]; rfl
        by_cases h0 : 0 < x
        · have hall := allB_t HA1.out
          have hg := gain_bd hall hl2.2
          have HI := Lib.hid hi; clear hi
          have HG := Lib.hid hgx; clear hgx
          have HL := Lib.hid hall; clear hall
          by_cases h1 : 0 < gainF s
          · have HN := Lib.hid (stiffB_yes HA1.out HI.out (by rw [HG.out]; exact h0) h1)
            have hi := HI.out
            go_wp2_with (first | (go_at_call 98; refine (l01In_c _ _ _ _).mono ?_; rintro e w' ⟨rfl, rfl⟩) | (go_at_call 110; refine (l07Gain_c _ _ _ _ _ H.out hl2 HL.out).mono ?_; rintro e w' ⟨rfl, nn, rfl⟩))
            go_ret
            exact ⟨ret_bool HN.out.symm, _, rfl⟩
          · have HN := Lib.hid (stiffB_no4 h1)
            have hi := HI.out
            go_wp2_with (first | (go_at_call 98; refine (l01In_c _ _ _ _).mono ?_; rintro e w' ⟨rfl, rfl⟩) | (go_at_call 110; refine (l07Gain_c _ _ _ _ _ H.out hl2 HL.out).mono ?_; rintro e w' ⟨rfl, nn, rfl⟩))
            go_ret
            exact ⟨ret_bool (by rw [HN.out]; exact decide_eq_false (by omega)), _, rfl⟩
        · have HN := Lib.hid (stiffB_no3 (by rw [hgx]; exact h0))
          clear hgx
          go_wp2_with (go_at_call 98; refine (l01In_c _ _ _ _).mono ?_; rintro e w' ⟨rfl, rfl⟩)
          go_ret
          exact ⟨ret_bool HN.out.symm, Dr.refl _⟩
theorem gain_cons (x : Int) (t : List Int) : gainF (x :: t) = x + 2 * isum t := by simp [gainF, isum]; omega
set_option maxHeartbeats 400000 in
theorem iIsStiffness_c (a : Option Addr) (c : Nat) (s : List Int) (w : World) (h : IntsAt w a s) (hl : s.length ≤ 1048576) (hc0 : s.length ≤ c) :
    Calls Try.prog 50 #[.slice a s.length c] w fun e w' => e = .returned (.bool (stiffB s)) ∧ Dr w w' := by
  cases h2 : inB s.length 1 4
  · have HN := Lib.hid (stiffB_no2 h2)
    have H2 := inB_f h2
    clear h2
    have H := Lib.hid h; clear h
    by_cases h3 : (s.length : Int) < 1
    · go_enter Try.func50, Try.ntmps50
      go_wp2_with fail
      go_ret
      exact ⟨ret_bool HN.out.symm, Dr.refl _⟩
    · have h4 : 4 < (s.length : Int) := by omega
      go_enter Try.func50, Try.ntmps50
      go_wp2_with fail
      go_ret
      exact ⟨ret_bool HN.out.symm, Dr.refl _⟩
  · have hl2 := inB_t h2
    cases h1 : allB s (-200) 200
    · have HN := Lib.hid (stiffB_no1 h1)
      have H := Lib.hid h; clear h h2
      go_enter Try.func50, Try.ntmps50
      go_wp2_with (go_at_call 113; refine (allWithin_c _ _ _ _ _ _ H.out hl).mono ?_; rintro e w' ⟨rfl, rfl⟩)
      go_ret
      exact ⟨ret_bool HN.out.symm, Dr.refl _⟩
    · have H1 := Lib.hid h1
      have HI := Lib.hid h2; clear h2
      match s, h with
      | [], _ => simp at hl2
      | x :: t, h =>
      obtain ⟨b, off, y, rfl, hc, hx⟩ := h.get (k := 0) (by simp)
      obtain rfl : x = y := by simpa using hx.out
      rw [Nat.add_zero] at hc
      have hall := allB_t H1.out
      have hx1 := hall x (by simp)
      have hg := gain_bd hall hl2.2
      have hgc := gain_cons x t
      have ht : -600 ≤ isum t ∧ isum t ≤ 600 := by
        have := isum_bd 200 t fun y hy => hall y (by simp [hy])
        have : (t.length : Int) ≤ 3 := by have := hl2.2; simp at this; omega
        omega
      have HL : Hid (∀ y, y ∈ t → -1000000 ≤ y ∧ y ≤ 1000000) := fun y hy => by have := hall y (by simp [hy]); omega
      have HT : Hid (IntsAt w (some ⟨b, off + 1, none⟩) t) := h.drop (n := 1)
      have H := Lib.hid h; clear h hall
      have hlt : t.length ≤ 1048576 := by simp at hl; omega
      have hlen : (x :: t).length = t.length + 1 := rfl
      have h5 : (1 : Int) ≤ ((t.length + 1 : Nat) : Int) ∧ ((t.length + 1 : Nat) : Int) ≤ 4 := by rw [hlen] at hl2; exact hl2
      rw [hlen] at hc0
      have HA : Hid (∀ w1 : World, w1 = w → IntsAt w1 (if c = 1 then some ⟨b, off, none⟩ else some ⟨b, off + 1, none⟩) t) := by
        intro w1 e; subst e
        by_cases hcc : c = 1
        · have : t = [] := List.eq_nil_of_length_eq_zero (by omega)
          subst this; exact IntsAt.nil _ _
        · rw [if_neg hcc]; exact HT.out
      by_cases h0 : 0 < x
      · by_cases h6 : 0 < gainF (x :: t)
        · have HN := Lib.hid (stiffB_yes H1.out HI.out (by simpa using h0) h6)
          have h7 : -x < 2 * isum t := by rw [hgc] at h6; omega
          have HG := Lib.hid hgc; clear hgc h6
          go_enter Try.func50, Try.ntmps50
          go_wp2_with (go_at_call 113; refine (allWithin_c _ _ _ _ _ _ H.out hl).mono ?_; rintro e w' ⟨rfl, rfl⟩)
          go_quiet ((go_at_call 107; exact quiet0 (total_c _ _ t _ ((HA.out _ rfl).kept0 ((Upd.refl _).drewN _)) hlt HL.out)))
          go_wp2
          all_goals go_ret
          all_goals exact ⟨ret_bool (by first | exact HN.out.symm | (rw [HN.out]; exact decide_eq_true (by omega))), _, rfl⟩
        · have HN := Lib.hid (stiffB_no4 h6)
          have h7 : ¬ -x < 2 * isum t := by rw [hgc] at h6; omega
          have HG := Lib.hid hgc; clear hgc h6
          go_enter Try.func50, Try.ntmps50
          go_wp2_with (go_at_call 113; refine (allWithin_c _ _ _ _ _ _ H.out hl).mono ?_; rintro e w' ⟨rfl, rfl⟩)
          go_quiet ((go_at_call 107; exact quiet0 (total_c _ _ t _ ((HA.out _ rfl).kept0 ((Upd.refl _).drewN _)) hlt HL.out)))
          go_wp2
          all_goals go_ret
          all_goals exact ⟨ret_bool (by first | exact HN.out.symm | (rw [HN.out]; exact decide_eq_false (by omega))), _, rfl⟩
      · have HN := Lib.hid (stiffB_no3 (s := x :: t) (by simpa using h0))
        have h8 : decide (0 < x) = false := by simpa using h0
        have HG := Lib.hid hgc; clear hgc
        go_enter Try.func50, Try.ntmps50
        go_wp2_with (go_at_call 113; refine (allWithin_c _ _ _ _ _ _ H.out hl).mono ?_; rintro e w' ⟨rfl, rfl⟩)
        go_quiet (fail)
        go_wp2
        go_ret
        exact ⟨ret_bool HN.out.symm, _, rfl⟩
end Go.Proofs.Ytdjdddepplaagaa
