/- The contracts of chapter 7 (tensions). -/
import Derived.Test.YtdjdddepplaagaaLawFns
import Derived.Test.YtdjdddepplaagaaSpread
namespace Go.Proofs.Ytdjdddepplaagaa
open Go.RowKit
set_option linter.unusedVariables false
set_option linter.unusedSimpArgs false

theorem total_c (a : Option Addr) (c : Nat) (xs : List Int) (w : World) (h : IntsAt w a xs) (hl : xs.length ≤ 1048576) (hb : ∀ x, x ∈ xs → -1000000 ≤ x ∧ x ≤ 1000000) :
    Calls Try.prog 107 #[.slice a xs.length c] w fun e w' => e = .returned (.int .i64 (isum xs)) ∧ w = w' := by
  have H := Lib.hid h; clear h
  have HB := Lib.hid hb; clear hb
  have HS : Hid (∀ k, -1048576000000 ≤ isum (xs.take k) ∧ isum (xs.take k) ≤ 1048576000000) := isum_take_bd 1000000 1048576000000 (by omega) xs HB.out (by omega)
  go_enter Try.func107, Try.ntmps107
  go_wp2
  go_loop [3, 8] (fun s i => ∃ k : Nat, k ≤ xs.length ∧ i = .int .i64 k ∧ s = .int .i64 (isum (xs.take k))) (fun _ i => xs.length - (intOf i).toNat)
  case atStart => exact ⟨0, by omega, rfl, rfl⟩
  case round =>
    obtain ⟨k, hk, rfl, rfl⟩ := hrel
    by_cases hlt : k < xs.length
    · obtain ⟨b, off, x, rfl, hc, hx⟩ := H.out.get hlt
      have hx1 := HB.out x (mem_of_get hx.out)
      have hs1 := HS.out k
      have HN := Lib.hid (isum_step hx.out)
      go_wp2
      go_round
      case rel => exact ⟨k + 1, by omega, by go_num, by rw [HN.out]⟩
      case measure => simp [intOf]; omega
    · obtain rfl : k = xs.length := by omega
      go_wp2
      go_ret
      exact ⟨ret_int (by simp), rfl⟩
theorem allWithin_c (a : Option Addr) (c : Nat) (xs : List Int) (lo hi : Int) (w : World) (h : IntsAt w a xs) (hl : xs.length ≤ 1048576) :
    Calls Try.prog 113 #[.slice a xs.length c, .int .i64 lo, .int .i64 hi] w fun e w' => e = .returned (.bool (allB xs lo hi)) ∧ w = w' := by
  have H := Lib.hid h; clear h
  go_enter Try.func113, Try.ntmps113
  go_wp2
  go_loop [11] (fun i => ∃ k : Nat, k ≤ xs.length ∧ i = .int .i64 k ∧ Hid (allB (xs.take k) lo hi = true)) (fun i => xs.length - (intOf i).toNat)
  case atStart => exact ⟨0, by omega, rfl, rfl⟩
  case round =>
    obtain ⟨k, hk, rfl, HA⟩ := hrel
    by_cases hlt : k < xs.length
    · obtain ⟨b, off, x, rfl, hc, hx⟩ := H.out.get hlt
      cases hi : inB x lo hi
      · have HN := Lib.hid (allB_f hx.out hi)
        go_wp2_with (go_at_call 86; refine (within_c _ _ _ _).mono ?_; rintro e w' ⟨rfl, rfl⟩)
        go_ret
        exact ⟨ret_bool HN.out.symm, rfl⟩
      · have HN := Lib.hid (allB_step hx.out HA.out hi)
        go_wp2_with (go_at_call 86; refine (within_c _ _ _ _).mono ?_; rintro e w' ⟨rfl, rfl⟩)
        go_round
        case rel => exact ⟨k + 1, by omega, by go_num, HN⟩
        case measure => simp [intOf]; omega
    · obtain rfl : k = xs.length := by omega
      have HN : Hid (allB xs lo hi = true) := by have := HA.out; rwa [List.take_length] at this
      go_wp2
      go_ret
      exact ⟨ret_bool HN.out.symm, rfl⟩
theorem l01Sum_c (a : Option Addr) (c : Nat) (xs : List Int) (w : World) (h : IntsAt w a xs) (hl : xs.length ≤ 1048576) (hb : ∀ x, x ∈ xs → -1000000 ≤ x ∧ x ≤ 1000000) :
    Calls Try.prog 117 #[.slice a xs.length c] w fun e w' => e = .returned (.int .i64 (isum xs)) ∧ w = w' := by
  have H := Lib.hid h; clear h
  have HB := Lib.hid hb; clear hb
  have HS : Hid (∀ k, -1048576000000 ≤ isum (xs.take k) ∧ isum (xs.take k) ≤ 1048576000000) := isum_take_bd 1000000 1048576000000 (by omega) xs HB.out (by omega)
  go_enter Try.func117, Try.ntmps117
  go_wp2
  go_loop [3, 4] (fun s i => ∃ k : Nat, k ≤ xs.length ∧ i = .int .i64 k ∧ s = .int .i64 (isum (xs.take k))) (fun _ i => xs.length - (intOf i).toNat)
  case atStart => exact ⟨0, by omega, rfl, rfl⟩
  case round =>
    obtain ⟨k, hk, rfl, rfl⟩ := hrel
    by_cases hlt : k < xs.length
    · obtain ⟨b, off, x, rfl, hc, hx⟩ := H.out.get hlt
      have hx1 := HB.out x (mem_of_get hx.out)
      have hs1 := HS.out k
      have HN := Lib.hid (isum_step hx.out)
      go_wp2
      go_round
      case rel => exact ⟨k + 1, by omega, by go_num, by rw [HN.out]⟩
      case measure => simp [intOf]; omega
    · obtain rfl : k = xs.length := by omega
      go_wp2
      go_ret
      exact ⟨ret_int (by simp), rfl⟩
/-- All numbers in a range, and the length too. -/
def areB (xs : List Int) (lo hi a b : Int) : Bool := allB xs lo hi && inB xs.length a b
theorem areB_t {xs : List Int} {lo hi a b : Int} (h : areB xs lo hi a b = true) : (∀ x, x ∈ xs → lo ≤ x ∧ x ≤ hi) ∧ a ≤ xs.length ∧ (xs.length : Int) ≤ b := by
  simp only [areB, Bool.and_eq_true] at h
  exact ⟨allB_t h.1, inB_t h.2⟩
theorem sAreTensions_c (a : Option Addr) (c : Nat) (xs : List Int) (w : World) (h : IntsAt w a xs) (hl : xs.length ≤ 1048576) :
    Calls Try.prog 109 #[.slice a xs.length c] w fun e w' => e = .returned (.bool (areB xs 0 3000 4 48)) ∧ w = w' := by
  have H := Lib.hid h; clear h
  go_enter Try.func109, Try.ntmps109
  go_wp2
  go_loop [3] (fun i => ∃ k : Nat, k ≤ xs.length ∧ i = .int .i64 k ∧ Hid (allB (xs.take k) 0 3000 = true)) (fun i => xs.length - (intOf i).toNat)
  case atStart => exact ⟨0, by omega, rfl, rfl⟩
  case round =>
    obtain ⟨k, hk, rfl, HA⟩ := hrel
    by_cases hlt : k < xs.length
    · obtain ⟨b, off, x, rfl, hc, hx⟩ := H.out.get hlt
      cases hi : inB x 0 3000
      · have HN : Hid (areB xs 0 3000 4 48 = false) := by show areB _ _ _ _ _ = false; rw [areB, allB_f hx.out hi]; rfl
        go_wp2_with (go_at_call 98; refine (l01In_c _ _ _ _).mono ?_; rintro e w' ⟨rfl, rfl⟩)
        go_ret
        exact ⟨ret_bool HN.out.symm, rfl⟩
      · have HN := Lib.hid (allB_step hx.out HA.out hi)
        go_wp2_with (go_at_call 98; refine (l01In_c _ _ _ _).mono ?_; rintro e w' ⟨rfl, rfl⟩)
        go_round
        case rel => exact ⟨k + 1, by omega, by go_num, HN⟩
        case measure => simp [intOf]; omega
    · obtain rfl : k = xs.length := by omega
      have HN : Hid (areB xs 0 3000 4 48 = inB xs.length 4 48) := by have := HA.out; rw [List.take_length] at this; show areB _ _ _ _ _ = _; rw [areB, this, Bool.true_and]
      go_wp2_with (go_at_call 98; refine (l01In_c _ _ _ _).mono ?_; rintro e w' ⟨rfl, rfl⟩)
      go_ret
      exact ⟨ret_bool HN.out.symm, rfl⟩
theorem iAreTensions_c (a : Option Addr) (c : Nat) (xs : List Int) (w : World) (h : IntsAt w a xs) (hl : xs.length ≤ 1048576) :
    Calls Try.prog 52 #[.slice a xs.length c] w fun e w' => e = .returned (.bool (areB xs 0 3000 4 48)) ∧ w = w' := by
  have H := Lib.hid h; clear h
  by_cases h1 : 4 ≤ (xs.length : Int)
  · by_cases h2 : (xs.length : Int) ≤ 48
    · have HN : Hid (areB xs 0 3000 4 48 = allB xs 0 3000) := by show areB _ _ _ _ _ = _; rw [areB, inB_mk ⟨h1, h2⟩, Bool.and_true]
      go_enter Try.func52, Try.ntmps52
      go_wp2_with (go_at_call 113; refine (allWithin_c _ _ _ _ _ _ H.out hl).mono ?_; rintro e w' ⟨rfl, rfl⟩)
      go_ret
      exact ⟨ret_bool HN.out.symm, rfl⟩
    · have HN : Hid (areB xs 0 3000 4 48 = false) := by show areB _ _ _ _ _ = _; rw [areB, inB_mkf (by omega), Bool.and_false]
      go_enter Try.func52, Try.ntmps52
      go_wp2_with fail
      go_ret
      exact ⟨ret_bool HN.out.symm, rfl⟩
  · have HN : Hid (areB xs 0 3000 4 48 = false) := by show areB _ _ _ _ _ = _; rw [areB, inB_mkf (by omega), Bool.and_false]
    go_enter Try.func52, Try.ntmps52
    go_wp2_with fail
    go_ret
    exact ⟨ret_bool HN.out.symm, rfl⟩
theorem iAreTensions_n (a : Option Addr) (c n : Nat) (xs : List Int) (w : World) (e : xs.length = n) (h : IntsAt w a xs) (hl : n ≤ 1048576) :
    Calls Try.prog 52 #[.slice a n c] w fun e w' => e = .returned (.bool (areB xs 0 3000 4 48)) ∧ w = w' := by
  subst e; exact iAreTensions_c a c xs w h hl

/-! ### SlackSpokes -/
def ltB (m t : Int) : Bool := decide (t < m)
def slackL (xs : List Int) (m : Int) : List Int := if areB xs 0 3000 4 48 && inB m 0 3000 then idxs (ltB m) xs 0 else []
def slackE (xs : List Int) (m : Int) : Int := if areB xs 0 3000 4 48 then (if inB m 0 3000 then 0 else 2) else 1
set_option maxHeartbeats 400000 in
theorem sSlackSpokes_c (a : Option Addr) (c : Nat) (xs : List Int) (m : Int) (w : World) (h : IntsAt w a xs) (hl : xs.length ≤ 1048576) :
    Calls Try.prog 58 #[.slice a xs.length c, .int .i64 m] w (NewIC w (slackL xs m) (slackE xs m)) := by
  have H := Lib.hid h; clear h
  cases h1 : areB xs 0 3000 4 48
  · have HE : Hid (slackL xs m = [] ∧ slackE xs m = 1) := by constructor <;> simp [slackL, slackE, h1]
    go_enter Try.func58, Try.ntmps58
    go_wp2_with (go_at_call 109; refine (sAreTensions_c _ _ _ _ H.out hl).mono ?_; rintro e w' ⟨rfl, rfl⟩)
    go_ret2
    rw [HE.out.1, HE.out.2]
    exact ⟨_, rfl, OwnI.nil _ _, Upd.refl w⟩
  · cases h2 : inB m 0 3000
    · have HE : Hid (slackL xs m = [] ∧ slackE xs m = 2) := by constructor <;> simp [slackL, slackE, h1, h2]
      go_enter Try.func58, Try.ntmps58
      go_wp2_with (first | (go_at_call 109; refine (sAreTensions_c _ _ _ _ H.out hl).mono ?_; rintro e w' ⟨rfl, rfl⟩) | (go_at_call 98; refine (l01In_c _ _ _ _).mono ?_; rintro e w' ⟨rfl, rfl⟩))
      go_ret2
      rw [HE.out.1, HE.out.2]
      exact ⟨_, rfl, OwnI.nil _ _, Upd.refl w⟩
    · have HE : Hid (slackL xs m = idxs (ltB m) xs 0 ∧ slackE xs m = 0) := by constructor <;> simp [slackL, slackE, h1, h2]
      go_enter Try.func58, Try.ntmps58
      go_wp2_with (first | (go_at_call 109; refine (sAreTensions_c _ _ _ _ H.out hl).mono ?_; rintro e w' ⟨rfl, rfl⟩) | (go_at_call 98; refine (l01In_c _ _ _ _).mono ?_; rintro e w' ⟨rfl, rfl⟩))
      go_loopw [6, 7] (fun v i wr => ∃ k : Nat, k ≤ xs.length ∧ i = .int .i64 k ∧ Hid (OwnI wr w.heap.size v (idxs (ltB m) (xs.take k) 0)) ∧ Hid (Upd [] w wr)) (fun _ i _ => xs.length - (intOf i).toNat)
      case atStart => exact ⟨0, by omega, rfl, OwnI.lit (Upd.refl w), (Upd.refl w).alloc _⟩
      case round =>
        obtain ⟨k, hk, rfl, HO, HU⟩ := hrel
        by_cases hlt : k < xs.length
        · obtain ⟨b, off, x, rfl, hc, hx⟩ := (H.out.kept0 HU.out).get hlt
          have HL := idxs_take_length (ltB m) xs k
          by_cases hp : x < m
          · have HN := Lib.hid (idxs_step_t hx.out (show ltB m x = true from decide_eq_true hp))
            go_wp2_with (at_builtin; refine wpList_appI rfl _ _ rfl _ _ _ rfl rfl HO.out HU.out (by omega) ?_; intro v' w1 h1 h2; have H1 := Lib.hid h1; have H2 := Lib.hid h2; clear h1 h2)
            go_roundw
            case rel => exact ⟨k + 1, by omega, by go_num, by rw [HN.out]; exact H1, H2⟩
            case measure => simp [intOf]; omega
          · have HN := Lib.hid (idxs_step_f hx.out (show ltB m x = false from decide_eq_false hp))
            go_wp2
            go_roundw
            case rel => exact ⟨k + 1, by omega, by go_num, by rw [HN.out]; exact HO, HU⟩
            case measure => simp [intOf]; omega
        · obtain rfl : k = xs.length := by omega
          have HO2 : Hid (OwnI wr w.heap.size u6 (idxs (ltB m) xs 0)) := by have := HO.out; rwa [List.take_length] at this
          clear HO
          go_wp2
          go_ret2
          rw [HE.out.1, HE.out.2]
          exact ⟨_, rfl, HO2.out, HU.out⟩
set_option maxHeartbeats 400000 in
theorem iSlackSpokes_c (a : Option Addr) (c : Nat) (xs : List Int) (m : Int) (w : World) (h : IntsAt w a xs) (hl : xs.length ≤ 1048576) :
    Calls Try.prog 57 #[.slice a xs.length c, .int .i64 m] w (NewIC w (slackL xs m) (slackE xs m)) := by
  have H := Lib.hid h; clear h
  cases h1 : areB xs 0 3000 4 48
  · have HE : Hid (slackL xs m = [] ∧ slackE xs m = 1) := by constructor <;> simp [slackL, slackE, h1]
    go_enter Try.func57, Try.ntmps57
    go_wp2_with (go_at_call 52; refine (iAreTensions_c _ _ _ _ H.out hl).mono ?_; rintro e w' ⟨rfl, rfl⟩)
    go_ret2
    rw [HE.out.1, HE.out.2]
    exact ⟨_, rfl, OwnI.nil _ _, Upd.refl w⟩
  · cases h2 : inB m 0 3000
    · have HE : Hid (slackL xs m = [] ∧ slackE xs m = 2) := by constructor <;> simp [slackL, slackE, h1, h2]
      go_enter Try.func57, Try.ntmps57
      go_wp2_with (first | (go_at_call 52; refine (iAreTensions_c _ _ _ _ H.out hl).mono ?_; rintro e w' ⟨rfl, rfl⟩) | (go_at_call 86; refine (within_c _ _ _ _).mono ?_; rintro e w' ⟨rfl, rfl⟩))
      go_ret2
      rw [HE.out.1, HE.out.2]
      exact ⟨_, rfl, OwnI.nil _ _, Upd.refl w⟩
    · have HE : Hid (slackL xs m = idxs (ltB m) xs 0 ∧ slackE xs m = 0) := by constructor <;> simp [slackL, slackE, h1, h2]
      go_enter Try.func57, Try.ntmps57
      go_wp2_with (first | (go_at_call 52; refine (iAreTensions_c _ _ _ _ H.out hl).mono ?_; rintro e w' ⟨rfl, rfl⟩) | (go_at_call 86; refine (within_c _ _ _ _).mono ?_; rintro e w' ⟨rfl, rfl⟩))
      go_loopw [6, 17] (fun v i wr => ∃ k : Nat, k ≤ xs.length ∧ i = .int .i64 k ∧ Hid (OwnI wr w.heap.size v (idxs (ltB m) (xs.take k) 0)) ∧ Hid (Upd [] w wr)) (fun _ i _ => xs.length - (intOf i).toNat)
      case atStart => exact ⟨0, by omega, rfl, OwnI.nil _ _, Upd.refl w⟩
      case round =>
        obtain ⟨k, hk, rfl, HO, HU⟩ := hrel
        by_cases hlt : k < xs.length
        · obtain ⟨b, off, x, rfl, hc, hx⟩ := (H.out.kept0 HU.out).get hlt
          have HL := idxs_take_length (ltB m) xs k
          by_cases hp : x < m
          · have HN := Lib.hid (idxs_step_t hx.out (show ltB m x = true from decide_eq_true hp))
            go_wp2_with (at_builtin; refine wpList_appI rfl _ _ rfl _ _ _ rfl rfl HO.out HU.out (by omega) ?_; intro v' w1 h1 h2; have H1 := Lib.hid h1; have H2 := Lib.hid h2; clear h1 h2)
            go_roundw
            case rel => exact ⟨k + 1, by omega, by go_num, by rw [HN.out]; exact H1, H2⟩
            case measure => simp [intOf]; omega
          · have HN := Lib.hid (idxs_step_f hx.out (show ltB m x = false from decide_eq_false hp))
            go_wp2
            go_roundw
            case rel => exact ⟨k + 1, by omega, by go_num, by rw [HN.out]; exact HO, HU⟩
            case measure => simp [intOf]; omega
        · obtain rfl : k = xs.length := by omega
          have HO2 : Hid (OwnI wr w.heap.size u6 (idxs (ltB m) xs 0)) := by have := HO.out; rwa [List.take_length] at this
          clear HO
          go_wp2
          go_ret2
          rw [HE.out.1, HE.out.2]
          exact ⟨_, rfl, HO2.out, HU.out⟩

/-! ### Sums and means -/
def sumV (xs : List Int) : Int := if areB xs 0 3000 4 48 then isum xs else 0
def sumE (xs : List Int) : Int := if areB xs 0 3000 4 48 then 0 else 1
def meanF (xs : List Int) : Int := nearF (isum xs) xs.length
def meanV (xs : List Int) : Int := if areB xs 0 3000 4 48 then meanF xs else 0
theorem tens_bd {xs : List Int} (h : areB xs 0 3000 4 48 = true) : (∀ x, x ∈ xs → -1000000 ≤ x ∧ x ≤ 1000000) ∧ (0 ≤ isum xs ∧ isum xs ≤ 144000) ∧ 4 ≤ (xs.length : Int) ∧ (xs.length : Int) ≤ 48 ∧ (0 ≤ meanF xs ∧ meanF xs ≤ 3000) := by
  obtain ⟨h1, h2, h3⟩ := areB_t h
  have h4 := isum_bd 3000 xs fun x hx => by have := h1 x hx; omega
  have h5 : ∀ ys : List Int, (∀ x, x ∈ ys → 0 ≤ x) → 0 ≤ isum ys := by
    intro ys hy
    induction ys with
    | nil => simp [isum]
    | cons y t ih => have := hy y (by simp); have := ih fun z hz => hy z (by simp [hz]); simp only [isum]; omega
  have h6 := h5 xs fun x hx => (h1 x hx).1
  refine ⟨fun x hx => by have := h1 x hx; omega, by omega, h2, h3, ?_⟩
  unfold meanF nearF
  have h7 : 0 < 2 * (xs.length : Int) := by omega
  constructor
  · exact Int.ediv_nonneg (by omega) (by omega)
  · have : (2 * isum xs + xs.length) / (2 * (xs.length : Int)) < 3001 := by
      apply Int.ediv_lt_of_lt_mul h7
      omega
    omega
theorem meanOf_c (a : Option Addr) (c : Nat) (xs : List Int) (w : World) (h : IntsAt w a xs) (hl : 1 ≤ (xs.length : Int) ∧ (xs.length : Int) ≤ 48) (hb : ∀ x, x ∈ xs → -1000000 ≤ x ∧ x ≤ 1000000) :
    Calls Try.prog 106 #[.slice a xs.length c] w fun e w' => e = .returned (.int .i64 (meanF xs)) ∧ w = w' := by
  have H := Lib.hid h; clear h
  have hs := isum_bd 1000000 xs hb
  have HB := Lib.hid hb; clear hb
  go_enter Try.func106, Try.ntmps106
  go_wp2_with (first | (go_at_call 107; refine (total_c _ _ _ _ H.out (by omega) HB.out).mono ?_; rintro e w' ⟨rfl, rfl⟩) | (go_at_call 139; refine (nearest_c _ _ _ (by omega) (by omega)).mono ?_; rintro e w' ⟨rfl, rfl⟩))
  go_ret
  exact ⟨rfl, rfl⟩
theorem l07Mean_c (a : Option Addr) (c : Nat) (xs : List Int) (w : World) (h : IntsAt w a xs) (hl : 1 ≤ (xs.length : Int) ∧ (xs.length : Int) ≤ 48) (hb : ∀ x, x ∈ xs → -1000000 ≤ x ∧ x ≤ 1000000) :
    Calls Try.prog 111 #[.slice a xs.length c] w fun e w' => e = .returned (.int .i64 (meanF xs)) ∧ w = w' := by
  have H := Lib.hid h; clear h
  have hs := isum_bd 1000000 xs hb
  have HB := Lib.hid hb; clear hb
  go_enter Try.func111, Try.ntmps111
  go_wp2_with (first | (go_at_call 117; refine (l01Sum_c _ _ _ _ H.out (by omega) HB.out).mono ?_; rintro e w' ⟨rfl, rfl⟩) | (go_at_call 135; refine (l01Nearest_c _ _ _ (by omega) (by omega)).mono ?_; rintro e w' ⟨rfl, rfl⟩))
  go_ret
  exact ⟨rfl, rfl⟩
theorem iSumOfTensions_c (a : Option Addr) (c : Nat) (xs : List Int) (w : World) (h : IntsAt w a xs) (hl : xs.length ≤ 1048576) :
    Calls Try.prog 47 #[.slice a xs.length c] w fun e w' => e = .returned (.tuple #[.int .i64 (sumV xs), .int .i64 (sumE xs)]) ∧ w = w' := by
  have H := Lib.hid h; clear h
  cases h1 : areB xs 0 3000 4 48
  · have HE : Hid (sumV xs = 0 ∧ sumE xs = 1) := by constructor <;> simp [sumV, sumE, h1]
    go_enter Try.func47, Try.ntmps47
    go_wp2_with (go_at_call 52; refine (iAreTensions_c _ _ _ _ H.out hl).mono ?_; rintro e w' ⟨rfl, rfl⟩)
    go_ret2
    exact ⟨ret_int2 HE.out.1.symm HE.out.2.symm, rfl⟩
  · have HE : Hid (sumV xs = isum xs ∧ sumE xs = 0) := by constructor <;> simp [sumV, sumE, h1]
    obtain ⟨hb, hs, hn1, hn2, hm⟩ := tens_bd h1
    have HB := Lib.hid hb; clear hb
    go_enter Try.func47, Try.ntmps47
    go_wp2_with (first | (go_at_call 52; refine (iAreTensions_c _ _ _ _ H.out hl).mono ?_; rintro e w' ⟨rfl, rfl⟩) | (go_at_call 107; refine (total_c _ _ _ _ H.out hl HB.out).mono ?_; rintro e w' ⟨rfl, rfl⟩))
    go_ret2
    exact ⟨ret_int2 HE.out.1.symm HE.out.2.symm, rfl⟩
theorem sSumOfTensions_c (a : Option Addr) (c : Nat) (xs : List Int) (w : World) (h : IntsAt w a xs) (hl : xs.length ≤ 1048576) :
    Calls Try.prog 48 #[.slice a xs.length c] w fun e w' => e = .returned (.tuple #[.int .i64 (sumV xs), .int .i64 (sumE xs)]) ∧ w = w' := by
  have H := Lib.hid h; clear h
  cases h1 : areB xs 0 3000 4 48
  · have HE : Hid (sumV xs = 0 ∧ sumE xs = 1) := by constructor <;> simp [sumV, sumE, h1]
    go_enter Try.func48, Try.ntmps48
    go_wp2_with (go_at_call 109; refine (sAreTensions_c _ _ _ _ H.out hl).mono ?_; rintro e w' ⟨rfl, rfl⟩)
    go_ret2
    exact ⟨ret_int2 HE.out.1.symm HE.out.2.symm, rfl⟩
  · have HE : Hid (sumV xs = isum xs ∧ sumE xs = 0) := by constructor <;> simp [sumV, sumE, h1]
    obtain ⟨hb, hs, hn1, hn2, hm⟩ := tens_bd h1
    have HB := Lib.hid hb; clear hb
    go_enter Try.func48, Try.ntmps48
    go_wp2_with (first | (go_at_call 109; refine (sAreTensions_c _ _ _ _ H.out hl).mono ?_; rintro e w' ⟨rfl, rfl⟩) | (go_at_call 117; refine (l01Sum_c _ _ _ _ H.out hl HB.out).mono ?_; rintro e w' ⟨rfl, rfl⟩))
    go_ret2
    exact ⟨ret_int2 HE.out.1.symm HE.out.2.symm, rfl⟩
theorem iMeanTension_c (a : Option Addr) (c : Nat) (xs : List Int) (w : World) (h : IntsAt w a xs) (hl : xs.length ≤ 1048576) :
    Calls Try.prog 41 #[.slice a xs.length c] w fun e w' => e = .returned (.tuple #[.int .i64 (meanV xs), .int .i64 (sumE xs)]) ∧ w = w' := by
  have H := Lib.hid h; clear h
  cases h1 : areB xs 0 3000 4 48
  · have HE : Hid (meanV xs = 0 ∧ sumE xs = 1) := by constructor <;> simp [meanV, sumE, h1]
    go_enter Try.func41, Try.ntmps41
    go_wp2_with (go_at_call 52; refine (iAreTensions_c _ _ _ _ H.out hl).mono ?_; rintro e w' ⟨rfl, rfl⟩)
    go_ret2
    exact ⟨ret_int2 HE.out.1.symm HE.out.2.symm, rfl⟩
  · have HE : Hid (meanV xs = meanF xs ∧ sumE xs = 0) := by constructor <;> simp [meanV, sumE, h1]
    obtain ⟨hb, hs, hn1, hn2, hm⟩ := tens_bd h1
    have HB := Lib.hid hb; clear hb
    go_enter Try.func41, Try.ntmps41
    go_wp2_with (first | (go_at_call 52; refine (iAreTensions_c _ _ _ _ H.out hl).mono ?_; rintro e w' ⟨rfl, rfl⟩) | (go_at_call 106; refine (meanOf_c _ _ _ _ H.out (by omega) HB.out).mono ?_; rintro e w' ⟨rfl, rfl⟩))
    go_ret2
    exact ⟨ret_int2 HE.out.1.symm HE.out.2.symm, rfl⟩
theorem sMeanTension_c (a : Option Addr) (c : Nat) (xs : List Int) (w : World) (h : IntsAt w a xs) (hl : xs.length ≤ 1048576) :
    Calls Try.prog 42 #[.slice a xs.length c] w fun e w' => e = .returned (.tuple #[.int .i64 (meanV xs), .int .i64 (sumE xs)]) ∧ w = w' := by
  have H := Lib.hid h; clear h
  cases h1 : areB xs 0 3000 4 48
  · have HE : Hid (meanV xs = 0 ∧ sumE xs = 1) := by constructor <;> simp [meanV, sumE, h1]
    go_enter Try.func42, Try.ntmps42
    go_wp2_with (go_at_call 109; refine (sAreTensions_c _ _ _ _ H.out hl).mono ?_; rintro e w' ⟨rfl, rfl⟩)
    go_ret2
    exact ⟨ret_int2 HE.out.1.symm HE.out.2.symm, rfl⟩
  · have HE : Hid (meanV xs = meanF xs ∧ sumE xs = 0) := by constructor <;> simp [meanV, sumE, h1]
    obtain ⟨hb, hs, hn1, hn2, hm⟩ := tens_bd h1
    have HB := Lib.hid hb; clear hb
    go_enter Try.func42, Try.ntmps42
    go_wp2_with (first | (go_at_call 109; refine (sAreTensions_c _ _ _ _ H.out hl).mono ?_; rintro e w' ⟨rfl, rfl⟩) | (go_at_call 111; refine (l07Mean_c _ _ _ _ H.out (by omega) HB.out).mono ?_; rintro e w' ⟨rfl, rfl⟩))
    go_ret2
    exact ⟨ret_int2 HE.out.1.symm HE.out.2.symm, rfl⟩

/-! ### Stiffness -/
def stiffB (s : List Int) : Bool := areB s (-200) 200 1 4 && decide (0 < s.getD 0 0) && decide (0 < gainF s)
theorem stiffB_t {s : List Int} (h : stiffB s = true) : (∀ x, x ∈ s → -200 ≤ x ∧ x ≤ 200) ∧ 1 ≤ (s.length : Int) ∧ (s.length : Int) ≤ 4 ∧ 0 < s.getD 0 0 ∧ 0 < gainF s := by
  simp only [stiffB, Bool.and_eq_true, decide_eq_true_eq] at h
  obtain ⟨h1, h2, h3⟩ := areB_t h.1.1
  exact ⟨h1, h2, h3, h.1.2, h.2⟩
theorem gain_bd {s : List Int} (h1 : ∀ x, x ∈ s → -200 ≤ x ∧ x ≤ 200) (h3 : (s.length : Int) ≤ 4) : -800 ≤ isum s ∧ isum s ≤ 800 ∧ -1800 ≤ gainF s ∧ gainF s ≤ 1800 := by
  have h4 := isum_bd 200 s h1
  have h5 := (show AllLe 200 s from h1).get (by omega) 0
  unfold gainF; omega
theorem l07Gain_c (b off c : Nat) (s : List Int) (w : World) (h : IntsAt w (some ⟨b, off, none⟩) s) (hl : 1 ≤ (s.length : Int) ∧ (s.length : Int) ≤ 4) (hb : ∀ x, x ∈ s → -200 ≤ x ∧ x ≤ 200) :
    Calls Try.prog 110 #[.slice (some ⟨b, off, none⟩) s.length c] w fun e w' => e = .returned (.int .i64 (gainF s)) ∧ Dr w w' := by
  obtain ⟨b', off', x, e, hc, hx⟩ := h.get (k := 0) (by omega)
  cases e
  rw [Nat.add_zero] at hc
  have H := Lib.hid h; clear h
  have hs := gain_bd hb hl.2
  have hx1 := hb x (mem_of_get hx.out)
  have HB : Hid (∀ x, x ∈ s → -1000000 ≤ x ∧ x ≤ 1000000) := fun x hx => by have := hb x hx; omega
  have HG : Hid (gainF s = 2 * isum s - x) := by show gainF s = _; rw [gainF, List.getD_eq_getElem?_getD, hx.out]; rfl
  clear hb
  go_enter Try.func110, Try.ntmps110
  go_wp2_with fail
  go_quiet ((go_at_call 117; exact quiet0 (l01Sum_c _ _ _ _ (H.out.kept0 ((Upd.refl _).drewN _)) (by omega) HB.out)))
  go_wp2
  go_ret
  exact ⟨ret_int HG.out.symm, _, rfl⟩
end Go.Proofs.Ytdjdddepplaagaa
