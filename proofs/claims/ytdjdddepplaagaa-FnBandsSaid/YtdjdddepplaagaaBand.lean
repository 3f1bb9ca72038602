/- The contracts of chapter 7: out of a band, the spread (by sorting, by least and greatest). -/
import Derived.Test.YtdjdddepplaagaaStiff
namespace Go.Proofs.Ytdjdddepplaagaa
open Go.RowKit
set_option linter.unusedVariables false
set_option linter.unusedSimpArgs false

/-! ### OutOfBand -/
def farB (mean p t : Int) : Bool := decide (p * mean < 100 * iabs (t - mean))
def bandL (xs : List Int) (p : Int) : List Int := if areB xs 0 3000 4 48 && inB p 0 100 then idxs (farB (meanF xs) p) xs 0 else []
def bandE (xs : List Int) (p : Int) : Int := if areB xs 0 3000 4 48 then (if inB p 0 100 then 0 else 2) else 1
set_option maxHeartbeats 800000 in
theorem sOutOfBand_c (a : Option Addr) (c : Nat) (xs : List Int) (p : Int) (w : World) (h : IntsAt w a xs) (hl : xs.length ≤ 1048576) :
    Calls Try.prog 55 #[.slice a xs.length c, .int .i64 p] w (NewIC w (bandL xs p) (bandE xs p)) := by
  have H := Lib.hid h; clear h
  cases h1 : areB xs 0 3000 4 48
  · have HE : Hid (bandL xs p = [] ∧ bandE xs p = 1) := by constructor <;> simp [bandL, bandE, h1]
    go_enter Try.func55, Try.ntmps55
    go_wp2_with (go_at_call 109; refine (sAreTensions_c _ _ _ _ H.out hl).mono ?_; rintro e w' ⟨rfl, rfl⟩)
    go_ret2
    rw [HE.out.1, HE.out.2]
    exact ⟨_, rfl, OwnI.nil _ _, Upd.refl w⟩
  · cases h2 : inB p 0 100
    · have HE : Hid (bandL xs p = [] ∧ bandE xs p = 2) := by constructor <;> simp [bandL, bandE, h1, h2]
      go_enter Try.func55, Try.ntmps55
      go_wp2_with (first | (go_at_call 109; refine (sAreTensions_c _ _ _ _ H.out hl).mono ?_; rintro e w' ⟨rfl, rfl⟩) | (go_at_call 98; refine (l01In_c _ _ _ _).mono ?_; rintro e w' ⟨rfl, rfl⟩))
      go_ret2
      rw [HE.out.1, HE.out.2]
      exact ⟨_, rfl, OwnI.nil _ _, Upd.refl w⟩
    · have HE : Hid (bandL xs p = idxs (farB (meanF xs) p) xs 0 ∧ bandE xs p = 0) := by constructor <;> simp [bandL, bandE, h1, h2]
      obtain ⟨hb, hsum, hn1, hn2, hm1, hm2⟩ := tens_bd h1
      have HB := Lib.hid hb; clear hb
      have HT := Lib.hid (areB_t h1).1
      have hp := inB_t h2
      have hpm : 0 ≤ p * meanF xs ∧ p * meanF xs ≤ 300000 := ⟨Int.mul_nonneg hp.1 hm1, by
        have h3 : p * meanF xs ≤ 100 * 3000 := Int.mul_le_mul hp.2 hm2 hm1 (by omega)
        omega⟩
      go_enter Try.func55, Try.ntmps55
      go_wp2_with (first | (go_at_call 109; refine (sAreTensions_c _ _ _ _ H.out hl).mono ?_; rintro e w' ⟨rfl, rfl⟩) | (go_at_call 98; refine (l01In_c _ _ _ _).mono ?_; rintro e w' ⟨rfl, rfl⟩) | (go_at_call 111; refine (l07Mean_c _ _ _ _ H.out (by omega) HB.out).mono ?_; rintro e w' ⟨rfl, rfl⟩))
      go_loopw [7, 8] (fun v i wr => ∃ k : Nat, k ≤ xs.length ∧ i = .int .i64 k ∧ Hid (OwnI wr w.heap.size v (idxs (farB (meanF xs) p) (xs.take k) 0)) ∧ Hid (Upd [] w wr)) (fun _ i _ => xs.length - (intOf i).toNat)
      case atStart => exact ⟨0, by omega, rfl, OwnI.lit (Upd.refl w), (Upd.refl w).alloc _⟩
      case round =>
        obtain ⟨k, hk, rfl, HO, HU⟩ := hrel
        by_cases hlt : k < xs.length
        · obtain ⟨b, off, x, rfl, hc, hx⟩ := (H.out.kept0 HU.out).get hlt
          have HL := idxs_take_length (farB (meanF xs) p) xs k
          have hx1 := HT.out x (mem_of_get hx.out)
          have hab := iabs_le (n := x - meanF xs) (M := 3000) (by omega)
          have hab0 := iabs_nonneg (x - meanF xs)
          by_cases hpp : p * meanF xs < 100 * iabs (x - meanF xs)
          · have HN := Lib.hid (idxs_step_t hx.out (show farB (meanF xs) p x = true from decide_eq_true hpp))
            go_wp2_with (first | (go_at_call 119; refine (l01Abs_c _ _ (by omega)).mono ?_; rintro e w' ⟨rfl, rfl⟩) | (at_builtin; refine wpList_appI rfl _ _ rfl _ _ _ rfl rfl HO.out HU.out (by omega) ?_; intro v' w1 h1 h2; have H1 := Lib.hid h1; have H2 := Lib.hid h2; clear h1 h2))
            go_roundw
            case rel => exact ⟨k + 1, by omega, by go_num, by rw [HN.out]; exact H1, H2⟩
            case measure => simp [intOf]; omega
          · have HN := Lib.hid (idxs_step_f hx.out (show farB (meanF xs) p x = false from decide_eq_false hpp))
            go_wp2_with (go_at_call 119; refine (l01Abs_c _ _ (by omega)).mono ?_; rintro e w' ⟨rfl, rfl⟩)
            go_roundw
            case rel => exact ⟨k + 1, by omega, by go_num, by rw [HN.out]; exact HO, HU⟩
            case measure => simp [intOf]; omega
        · obtain rfl : k = xs.length := by omega
          have HO2 : Hid (OwnI wr w.heap.size u7 (idxs (farB (meanF xs) p) xs 0)) := by have := HO.out; rwa [List.take_length] at this
          clear HO
          go_wp2
          go_ret2
          rw [HE.out.1, HE.out.2]
          exact ⟨_, rfl, HO2.out, HU.out⟩
set_option maxHeartbeats 800000 in
theorem iOutOfBand_c (a : Option Addr) (c : Nat) (xs : List Int) (p : Int) (w : World) (h : IntsAt w a xs) (hl : xs.length ≤ 1048576) :
    Calls Try.prog 54 #[.slice a xs.length c, .int .i64 p] w (NewIC w (bandL xs p) (bandE xs p)) := by
  have H := Lib.hid h; clear h
  cases h1 : areB xs 0 3000 4 48
  · have HE : Hid (bandL xs p = [] ∧ bandE xs p = 1) := by constructor <;> simp [bandL, bandE, h1]
    go_enter Try.func54, Try.ntmps54
    go_wp2_with (go_at_call 52; refine (iAreTensions_c _ _ _ _ H.out hl).mono ?_; rintro e w' ⟨rfl, rfl⟩)
    go_ret2
    rw [HE.out.1, HE.out.2]
    exact ⟨_, rfl, OwnI.nil _ _, Upd.refl w⟩
  · cases h2 : inB p 0 100
    · have HE : Hid (bandL xs p = [] ∧ bandE xs p = 2) := by constructor <;> simp [bandL, bandE, h1, h2]
      go_enter Try.func54, Try.ntmps54
      go_wp2_with (first | (go_at_call 52; refine (iAreTensions_c _ _ _ _ H.out hl).mono ?_; rintro e w' ⟨rfl, rfl⟩) | (go_at_call 86; refine (within_c _ _ _ _).mono ?_; rintro e w' ⟨rfl, rfl⟩))
      go_ret2
      rw [HE.out.1, HE.out.2]
      exact ⟨_, rfl, OwnI.nil _ _, Upd.refl w⟩
    · have HE : Hid (bandL xs p = idxs (farB (meanF xs) p) xs 0 ∧ bandE xs p = 0) := by constructor <;> simp [bandL, bandE, h1, h2]
      obtain ⟨hb, hsum, hn1, hn2, hm1, hm2⟩ := tens_bd h1
      have HB := Lib.hid hb; clear hb
      have HT := Lib.hid (areB_t h1).1
      have hp := inB_t h2
      have hpm : 0 ≤ p * meanF xs ∧ p * meanF xs ≤ 300000 := ⟨Int.mul_nonneg hp.1 hm1, by
        have h3 : p * meanF xs ≤ 100 * 3000 := Int.mul_le_mul hp.2 hm2 hm1 (by omega)
        omega⟩
      go_enter Try.func54, Try.ntmps54
      go_wp2_with (first | (go_at_call 52; refine (iAreTensions_c _ _ _ _ H.out hl).mono ?_; rintro e w' ⟨rfl, rfl⟩) | (go_at_call 86; refine (within_c _ _ _ _).mono ?_; rintro e w' ⟨rfl, rfl⟩) | (go_at_call 106; refine (meanOf_c _ _ _ _ H.out (by omega) HB.out).mono ?_; rintro e w' ⟨rfl, rfl⟩))
      go_loopw [7, 20] (fun v i wr => ∃ k : Nat, k ≤ xs.length ∧ i = .int .i64 k ∧ Hid (OwnI wr w.heap.size v (idxs (farB (meanF xs) p) (xs.take k) 0)) ∧ Hid (Upd [] w wr)) (fun _ i _ => xs.length - (intOf i).toNat)
      case atStart => exact ⟨0, by omega, rfl, OwnI.nil _ _, Upd.refl w⟩
      case round =>
        obtain ⟨k, hk, rfl, HO, HU⟩ := hrel
        by_cases hlt : k < xs.length
        · obtain ⟨b, off, x, rfl, hc, hx⟩ := (H.out.kept0 HU.out).get hlt
          have HL := idxs_take_length (farB (meanF xs) p) xs k
          have hx1 := HT.out x (mem_of_get hx.out)
          have hab := iabs_le (n := x - meanF xs) (M := 3000) (by omega)
          have hab0 := iabs_nonneg (x - meanF xs)
          by_cases hpp : p * meanF xs < 100 * iabs (x - meanF xs)
          · have HN := Lib.hid (idxs_step_t hx.out (show farB (meanF xs) p x = true from decide_eq_true hpp))
            go_wp2_with (first | (go_at_call 118; refine (abs_c _ _ (by omega)).mono ?_; rintro e w' ⟨rfl, rfl⟩) | (at_builtin; refine wpList_appI rfl _ _ rfl _ _ _ rfl rfl HO.out HU.out (by omega) ?_; intro v' w1 h1 h2; have H1 := Lib.hid h1; have H2 := Lib.hid h2; clear h1 h2))
            go_roundw
            case rel => exact ⟨k + 1, by omega, by go_num, by rw [HN.out]; exact H1, H2⟩
            case measure => simp [intOf]; omega
          · have HN := Lib.hid (idxs_step_f hx.out (show farB (meanF xs) p x = false from decide_eq_false hpp))
            go_wp2_with (go_at_call 118; refine (abs_c _ _ (by omega)).mono ?_; rintro e w' ⟨rfl, rfl⟩)
            go_roundw
            case rel => exact ⟨k + 1, by omega, by go_num, by rw [HN.out]; exact HO, HU⟩
            case measure => simp [intOf]; omega
        · obtain rfl : k = xs.length := by omega
          have HO2 : Hid (OwnI wr w.heap.size u7 (idxs (farB (meanF xs) p) xs 0)) := by have := HO.out; rwa [List.take_length] at this
          clear HO
          go_wp2
          go_ret2
          rw [HE.out.1, HE.out.2]
          exact ⟨_, rfl, HO2.out, HU.out⟩
end Go.Proofs.Ytdjdddepplaagaa
