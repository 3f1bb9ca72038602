/- The contracts of chapter 7: turns for a mean. -/
import Derived.Test.YtdjdddepplaagaaStiff
namespace Go.Proofs.Ytdjdddepplaagaa
open Go.RowKit
set_option linter.unusedVariables false
set_option linter.unusedSimpArgs false

/-! ### Turns for a mean -/
def tfmF (now gain m : Int) : Int := if now < m then (m - now + gain - 1) / gain else -((now - m + gain - 1) / gain)
def tfmB (xs s : List Int) : Bool := areB xs 0 3000 4 48 && stiffB s
def tfmV (xs s : List Int) (m : Int) : Int := if tfmB xs s then (if inB m 0 3000 then tfmF (meanF xs) (gainF s) m else 0) else 0
def tfmE (xs s : List Int) (m : Int) : Int := if tfmB xs s then (if inB m 0 3000 then 0 else 2) else 1
set_option maxHeartbeats 400000 in
theorem sTurnsForMean_c (a b : Option Addr) (c d : Nat) (xs s : List Int) (m : Int) (w : World) (h : IntsAt w a xs) (hs : IntsAt w b s) (hl : xs.length ≤ 1048576) (hl2 : s.length ≤ 1048576) :
    Calls Try.prog 40 #[.slice a xs.length c, .slice b s.length d, .int .i64 m] w fun e w' => e = .returned (.tuple #[.int .i64 (tfmV xs s m), .int .i64 (tfmE xs s m)]) ∧ Dr w w' := by
  have H := Lib.hid h; clear h
  have HS := Lib.hid hs
  cases h1 : areB xs 0 3000 4 48
  · have HE : Hid (tfmV xs s m = 0 ∧ tfmE xs s m = 1) := by constructor <;> simp [tfmV, tfmE, tfmB, h1]
    clear hs
    go_enter Try.func40, Try.ntmps40
    go_wp2_with (go_at_call 109; refine (sAreTensions_c _ _ _ _ H.out hl).mono ?_; rintro e w' ⟨rfl, rfl⟩)
    go_ret2
    exact ⟨ret_int2 HE.out.1.symm HE.out.2.symm, Dr.refl _⟩
  · cases h2 : stiffB s
    · have HE : Hid (tfmV xs s m = 0 ∧ tfmE xs s m = 1) := by constructor <;> simp [tfmV, tfmE, tfmB, h1, h2]
      clear hs
      go_enter Try.func40, Try.ntmps40
      go_wp2_with (first | (go_at_call 109; refine (sAreTensions_c _ _ _ _ H.out hl).mono ?_; rintro e w' ⟨rfl, rfl⟩) | (go_at_call 51; refine (sIsStiffness_c _ _ _ _ HS.out hl2).mono ?_; rintro e w' ⟨rfl, nn, rfl⟩))
      go_ret2
      exact ⟨ret_int2 HE.out.1.symm HE.out.2.symm, _, rfl⟩
    · cases h3 : inB m 0 3000
      · have HE : Hid (tfmV xs s m = 0 ∧ tfmE xs s m = 2) := by constructor <;> simp [tfmV, tfmE, tfmB, h1, h2, h3]
        clear hs
        go_enter Try.func40, Try.ntmps40
        go_wp2_with (first | (go_at_call 109; refine (sAreTensions_c _ _ _ _ H.out hl).mono ?_; rintro e w' ⟨rfl, rfl⟩) | (go_at_call 51; refine (sIsStiffness_c _ _ _ _ HS.out hl2).mono ?_; rintro e w' ⟨rfl, nn, rfl⟩) | (go_at_call 98; refine (l01In_c _ _ _ _).mono ?_; rintro e w' ⟨rfl, rfl⟩))
        go_ret2
        exact ⟨ret_int2 HE.out.1.symm HE.out.2.symm, _, rfl⟩
      · have HE : Hid (tfmV xs s m = tfmF (meanF xs) (gainF s) m ∧ tfmE xs s m = 0) := by constructor <;> simp [tfmV, tfmE, tfmB, h1, h2, h3]
        obtain ⟨hb, hsum, hn1, hn2, hm1, hm2⟩ := tens_bd h1
        have HB := Lib.hid hb; clear hb
        obtain ⟨hall, hn3, hn4, hs0, hg0⟩ := stiffB_t h2
        have hg := gain_bd hall hn4
        have h3' := inB_t h3
        have HA := Lib.hid hall; clear hall
        obtain ⟨b1, off, y, rfl, hc, hx⟩ := hs.get (k := 0) (by omega)
        clear hs
        by_cases hlt : meanF xs < m
        · have HT : Hid (tfmF (meanF xs) (gainF s) m = (m - meanF xs + gainF s - 1) / gainF s) := if_pos hlt
          go_enter Try.func40, Try.ntmps40
          go_wp2_with (first | (go_at_call 109; refine (sAreTensions_c _ _ _ _ H.out hl).mono ?_; rintro e w' ⟨rfl, rfl⟩) | (go_at_call 51; refine (sIsStiffness_c _ _ _ _ HS.out hl2).mono ?_; rintro e w' ⟨rfl, nn, rfl⟩) | (go_at_call 98; refine (l01In_c _ _ _ _).mono ?_; rintro e w' ⟨rfl, rfl⟩) | (go_at_call 110; refine (l07Gain_c _ _ _ _ _ (HS.out.dr (by repeat (first | exact Dr.refl _ | apply Dr.drewN))) ⟨hn3, hn4⟩ HA.out).mono ?_; rintro e w' ⟨rfl, nn, rfl⟩) | (go_at_call 111; refine (l07Mean_c _ _ _ _ (H.out.dr (by repeat (first | exact Dr.refl _ | apply Dr.drewN))) (by omega) HB.out).mono ?_; rintro e w' ⟨rfl, rfl⟩) | (go_at_call 112; refine (l01Ceil_c _ _ _ (by omega) (by omega) (by omega)).mono ?_; rintro e w' ⟨rfl, rfl⟩))
          go_ret2
          exact ⟨ret_int2 (by rw [HE.out.1, HT.out]) HE.out.2.symm, _, rfl⟩
        · by_cases heq : meanF xs = m
          · have HT : Hid (tfmF (meanF xs) (gainF s) m = 0) := by
              show tfmF _ _ _ = 0
              rw [tfmF, if_neg hlt, heq, Int.sub_self, Int.zero_add, Int.ediv_eq_zero_of_lt (by omega) (by omega)]; rfl
            have HT2 : Hid ((m - meanF xs + gainF s - 1) / gainF s = 0) := by
              show _ / _ = _
              rw [heq, Int.sub_self, Int.zero_add, Int.ediv_eq_zero_of_lt (by omega) (by omega)]
            have hle : meanF xs ≤ m := by omega
            have hge : m ≤ meanF xs := by omega
            clear heq
            go_enter Try.func40, Try.ntmps40
            go_wp2_with (first | (go_at_call 109; refine (sAreTensions_c _ _ _ _ H.out hl).mono ?_; rintro e w' ⟨rfl, rfl⟩) | (go_at_call 51; refine (sIsStiffness_c _ _ _ _ HS.out hl2).mono ?_; rintro e w' ⟨rfl, nn, rfl⟩) | (go_at_call 98; refine (l01In_c _ _ _ _).mono ?_; rintro e w' ⟨rfl, rfl⟩) | (go_at_call 110; refine (l07Gain_c _ _ _ _ _ (HS.out.dr (by repeat (first | exact Dr.refl _ | apply Dr.drewN))) ⟨hn3, hn4⟩ HA.out).mono ?_; rintro e w' ⟨rfl, nn, rfl⟩) | (go_at_call 111; refine (l07Mean_c _ _ _ _ (H.out.dr (by repeat (first | exact Dr.refl _ | apply Dr.drewN))) (by omega) HB.out).mono ?_; rintro e w' ⟨rfl, rfl⟩) | (go_at_call 112; refine (l01Ceil_c _ _ _ (by omega) (by omega) (by omega)).mono ?_; rintro e w' ⟨rfl, rfl⟩))
            go_ret2
            exact ⟨ret_int2 (by rw [HE.out.1, HT.out, HT2.out]) HE.out.2.symm, _, rfl⟩
          · have HT : Hid (tfmF (meanF xs) (gainF s) m = -((meanF xs - m + gainF s - 1) / gainF s)) := if_neg hlt
            have hlt2 : m < meanF xs := by omega
            have hq := ediv_bd (meanF xs - m + gainF s - 1) (gainF s) 10000 (by omega) (by omega)
            clear heq
            go_enter Try.func40, Try.ntmps40
            go_wp2_with (first | (go_at_call 109; refine (sAreTensions_c _ _ _ _ H.out hl).mono ?_; rintro e w' ⟨rfl, rfl⟩) | (go_at_call 51; refine (sIsStiffness_c _ _ _ _ HS.out hl2).mono ?_; rintro e w' ⟨rfl, nn, rfl⟩) | (go_at_call 98; refine (l01In_c _ _ _ _).mono ?_; rintro e w' ⟨rfl, rfl⟩) | (go_at_call 110; refine (l07Gain_c _ _ _ _ _ (HS.out.dr (by repeat (first | exact Dr.refl _ | apply Dr.drewN))) ⟨hn3, hn4⟩ HA.out).mono ?_; rintro e w' ⟨rfl, nn, rfl⟩) | (go_at_call 111; refine (l07Mean_c _ _ _ _ (H.out.dr (by repeat (first | exact Dr.refl _ | apply Dr.drewN))) (by omega) HB.out).mono ?_; rintro e w' ⟨rfl, rfl⟩) | (go_at_call 112; refine (l01Ceil_c _ _ _ (by omega) (by omega) (by omega)).mono ?_; rintro e w' ⟨rfl, rfl⟩))
            go_ret2
            exact ⟨ret_int2 (by rw [HE.out.1, HT.out]) HE.out.2.symm, _, rfl⟩
set_option maxHeartbeats 400000 in
theorem iTurnsForMean_c (a b : Option Addr) (c d : Nat) (xs s : List Int) (m : Int) (w : World) (h : IntsAt w a xs) (hs : IntsAt w b s) (hl : xs.length ≤ 1048576) (hl2 : s.length ≤ 1048576) (hc0 : s.length ≤ d) :
    Calls Try.prog 39 #[.slice a xs.length c, .slice b s.length d, .int .i64 m] w fun e w' => e = .returned (.tuple #[.int .i64 (tfmV xs s m), .int .i64 (tfmE xs s m)]) ∧ Dr w w' := by
  have H := Lib.hid h; clear h
  have HS := Lib.hid hs
  cases h1 : areB xs 0 3000 4 48
  · have HE : Hid (tfmV xs s m = 0 ∧ tfmE xs s m = 1) := by constructor <;> simp [tfmV, tfmE, tfmB, h1]
    clear hs
    go_enter Try.func39, Try.ntmps39
    go_wp2_with (go_at_call 52; refine (iAreTensions_c _ _ _ _ H.out hl).mono ?_; rintro e w' ⟨rfl, rfl⟩)
    go_ret2
    exact ⟨ret_int2 HE.out.1.symm HE.out.2.symm, Dr.refl _⟩
  · cases h2 : stiffB s
    · have HE : Hid (tfmV xs s m = 0 ∧ tfmE xs s m = 1) := by constructor <;> simp [tfmV, tfmE, tfmB, h1, h2]
      clear hs
      go_enter Try.func39, Try.ntmps39
      go_wp2_with (first | (go_at_call 52; refine (iAreTensions_c _ _ _ _ H.out hl).mono ?_; rintro e w' ⟨rfl, rfl⟩) | (go_at_call 50; refine (iIsStiffness_c _ _ _ _ HS.out hl2 hc0).mono ?_; rintro e w' ⟨rfl, nn, rfl⟩))
      go_ret2
      exact ⟨ret_int2 HE.out.1.symm HE.out.2.symm, _, rfl⟩
    · cases h3 : inB m 0 3000
      · have HE : Hid (tfmV xs s m = 0 ∧ tfmE xs s m = 2) := by constructor <;> simp [tfmV, tfmE, tfmB, h1, h2, h3]
        clear hs
        go_enter Try.func39, Try.ntmps39
        go_wp2_with (first | (go_at_call 52; refine (iAreTensions_c _ _ _ _ H.out hl).mono ?_; rintro e w' ⟨rfl, rfl⟩) | (go_at_call 50; refine (iIsStiffness_c _ _ _ _ HS.out hl2 hc0).mono ?_; rintro e w' ⟨rfl, nn, rfl⟩) | (go_at_call 86; refine (within_c _ _ _ _).mono ?_; rintro e w' ⟨rfl, rfl⟩))
        go_ret2
        exact ⟨ret_int2 HE.out.1.symm HE.out.2.symm, _, rfl⟩
      · have HE : Hid (tfmV xs s m = tfmF (meanF xs) (gainF s) m ∧ tfmE xs s m = 0) := by constructor <;> simp [tfmV, tfmE, tfmB, h1, h2, h3]
        obtain ⟨hb, hsum, hn1, hn2, hm1, hm2⟩ := tens_bd h1
        have HB := Lib.hid hb; clear hb
        obtain ⟨hall, hn3, hn4, hs0, hg0⟩ := stiffB_t h2
        have hg := gain_bd hall hn4
        have h3' := inB_t h3
        match s, hs, HS with
        | [], _, _ => simp at hn3
        | x :: t, hs, HS =>
        obtain ⟨b1, off, y, rfl, hc, hx⟩ := hs.get (k := 0) (by simp)
        obtain rfl : x = y := by simpa using hx.out
        rw [Nat.add_zero] at hc
        have hx1 := hall x (by simp)
        have hx0 : 0 < x := by simpa using hs0
        have hgc := gain_cons x t
        have ht : -600 ≤ isum t ∧ isum t ≤ 600 := by
          have := isum_bd 200 t fun y hy => hall y (by simp [hy])
          have : (t.length : Int) ≤ 3 := by have := hn4; simp at this; omega
          omega
        have HL : Hid (∀ y, y ∈ t → -1000000 ≤ y ∧ y ≤ 1000000) := fun y hy => by have := hall y (by simp [hy]); omega
        have HT : Hid (IntsAt w (some ⟨b1, off + 1, none⟩) t) := hs.drop (n := 1)
        clear hs hall
        have hlt : t.length ≤ 1048576 := by simp at hl2; omega
        have hlen : (x :: t).length = t.length + 1 := rfl
        have h5 : (1 : Int) ≤ ((t.length + 1 : Nat) : Int) ∧ ((t.length + 1 : Nat) : Int) ≤ 4 := by rw [hlen] at hn3 hn4; exact ⟨hn3, hn4⟩
        rw [hlen] at hc0
        have i1 : (1 : Int) ≤ (t.length : Int) + 1 := by omega
        have HA : Hid (∀ w1 : World, w1 = w → IntsAt w1 (if d = 1 then some ⟨b1, off, none⟩ else some ⟨b1, off + 1, none⟩) t) := by
          intro w1 e; subst e
          by_cases hcc : d = 1
          · have : t = [] := List.eq_nil_of_length_eq_zero (by omega)
            subst this; exact IntsAt.nil _ _
          · rw [if_neg hcc]; exact HT.out
        have hg1 : 1 ≤ x + 2 * isum t := by rw [hgc] at hg0; omega
        have HG := Lib.hid hgc; clear hgc hg hg0 hs0
        by_cases hlt3 : meanF xs < m
        · have HV : Hid (tfmF (meanF xs) (gainF (x :: t)) m = (m - meanF xs + (x + 2 * isum t) - 1) / (x + 2 * isum t)) := by show tfmF _ _ _ = _; rw [HG.out]; exact if_pos hlt3
          go_enter Try.func39, Try.ntmps39
          go_wp2_with (first | (go_at_call 52; refine (iAreTensions_c _ _ _ _ H.out hl).mono ?_; rintro e w' ⟨rfl, rfl⟩) | (go_at_call 50; refine (iIsStiffness_c _ _ _ _ HS.out hl2 hc0).mono ?_; rintro e w' ⟨rfl, nn, rfl⟩) | (go_at_call 86; refine (within_c _ _ _ _).mono ?_; rintro e w' ⟨rfl, rfl⟩) | (go_at_call 106; refine (meanOf_c _ _ _ _ (H.out.dr (by repeat (first | exact Dr.refl _ | apply Dr.drewN))) (by omega) HB.out).mono ?_; rintro e w' ⟨rfl, rfl⟩))
          have hc1 : (w.drewN nn).cell? ⟨b1, off, none⟩ = some (.int .i64 x) := hc
          have HD : Hid (Dr w (w.drewN nn)) := ⟨_, rfl⟩
          generalize w.drewN nn = w1 at hc1 HD ⊢
          go_quiet ((go_at_call 107; exact quiet0 (total_c _ _ t _ ((HA.out _ rfl).dr (HD.out.drewN _)) hlt HL.out)))
          go_wp2_with (go_at_call 108; refine (ceilDiv_c _ _ _ (by omega) (by omega) (by omega)).mono ?_; rintro e w' ⟨rfl, rfl⟩)
          all_goals go_ret2
          all_goals exact ⟨ret_int2 (by rw [HE.out.1, HV.out]) HE.out.2.symm, HD.out.drewN _⟩
        · have HV : Hid (tfmF (meanF xs) (gainF (x :: t)) m = -((meanF xs - m + (x + 2 * isum t) - 1) / (x + 2 * isum t))) := by show tfmF _ _ _ = _; rw [HG.out]; exact if_neg hlt3
          have hq := ediv_bd (meanF xs - m + (x + 2 * isum t) - 1) (x + 2 * isum t) 10000 (by omega) (by omega)
          go_enter Try.func39, Try.ntmps39
          go_wp2_with (first | (go_at_call 52; refine (iAreTensions_c _ _ _ _ H.out hl).mono ?_; rintro e w' ⟨rfl, rfl⟩) | (go_at_call 50; refine (iIsStiffness_c _ _ _ _ HS.out hl2 hc0).mono ?_; rintro e w' ⟨rfl, nn, rfl⟩) | (go_at_call 86; refine (within_c _ _ _ _).mono ?_; rintro e w' ⟨rfl, rfl⟩) | (go_at_call 106; refine (meanOf_c _ _ _ _ (H.out.dr (by repeat (first | exact Dr.refl _ | apply Dr.drewN))) (by omega) HB.out).mono ?_; rintro e w' ⟨rfl, rfl⟩))
          have hc1 : (w.drewN nn).cell? ⟨b1, off, none⟩ = some (.int .i64 x) := hc
          have HD : Hid (Dr w (w.drewN nn)) := ⟨_, rfl⟩
          generalize w.drewN nn = w1 at hc1 HD ⊢
          go_quiet ((go_at_call 107; exact quiet0 (total_c _ _ t _ ((HA.out _ rfl).dr (HD.out.drewN _)) hlt HL.out)))
          go_wp2_with (go_at_call 108; refine (ceilDiv_c _ _ _ (by omega) (by omega) (by omega)).mono ?_; rintro e w' ⟨rfl, rfl⟩)
          all_goals go_ret2
          all_goals exact ⟨ret_int2 (by rw [HE.out.1, HV.out]) HE.out.2.symm, HD.out.drewN _⟩
end Go.Proofs.Ytdjdddepplaagaa
