/- Chapter 3: cosines by the recurrence; chapter 2: the square root. -/
import Derived.Test.YtbjeaadnanimfaaApp
namespace Go.Proofs.Ytbjeaadnanimfaa
open Go.RowKit
set_option linter.unusedVariables false
set_option linter.unusedSimpArgs false

/-! ### Plain -/
/-- C(k) and C(k+1). -/
def cosP : Nat → Int × Int
  | 0 => (1000000000, 999961923)
  | k + 1 => ((cosP k).2, nearF (1999923846 * (cosP k).2) 1000000000 - (cosP k).1)
def cosChk : Nat → Int → Int → Bool
  | 0, _, _ => true
  | n + 1, a, b => decide (-1000000000 ≤ a ∧ a ≤ 1000000000 ∧ -1000000000 ≤ b ∧ b ≤ 1000000000) && cosChk n b (nearF (1999923846 * b) 1000000000 - a)
theorem cosChk_spec (n : Nat) : ∀ k, cosChk n (cosP k).1 (cosP k).2 = true → ∀ j, j < n → (-1000000000 ≤ (cosP (k + j)).1 ∧ (cosP (k + j)).1 ≤ 1000000000) ∧ -1000000000 ≤ (cosP (k + j)).2 ∧ (cosP (k + j)).2 ≤ 1000000000 := by
  induction n with
  | zero => intro k _ j hj; omega
  | succ n ih =>
    intro k h j hj
    simp only [cosChk, Bool.and_eq_true, decide_eq_true_eq] at h
    cases j with
    | zero => exact ⟨⟨h.1.1, h.1.2.1⟩, h.1.2.2.1, h.1.2.2.2⟩
    | succ j =>
      have := ih (k + 1) h.2 j (by omega)
      rw [show k + 1 + j = k + (j + 1) by omega] at this
      exact this
theorem cosP_bd {k : Nat} (hk : k < 180) : (-1000000000 ≤ (cosP k).1 ∧ (cosP k).1 ≤ 1000000000) ∧ -1000000000 ≤ (cosP k).2 ∧ (cosP k).2 ≤ 1000000000 := by
  have h : cosChk 180 (cosP 0).1 (cosP 0).2 = true := by decide +kernel
  have := cosChk_spec 180 0 h k hk
  rwa [Nat.zero_add] at this
/-- The cosine of 0 to 180 steps. -/
def cosF (s : Nat) : Int := if s = 180 then 0 else (cosP s).1
theorem cosF_bd {s : Nat} (h : s ≤ 180) : -1000000000 ≤ cosF s ∧ cosF s ≤ 1000000000 := by
  unfold cosF; split
  · omega
  · exact (cosP_bd (by omega)).1
/-- The cosine of 0 to 359 steps. -/
def cosV (s : Int) : Int := if s ≤ 180 then cosF s.toNat else -cosF (360 - s).toNat
theorem cosV_bd {s : Int} (h : 0 ≤ s ∧ s < 360) : -1000000000 ≤ cosV s ∧ cosV s ≤ 1000000000 := by
  unfold cosV; split
  · exact cosF_bd (by omega)
  · have := cosF_bd (s := (360 - s).toNat) (by omega); omega
def sqB (a b s : Int) : Int := a * a + b * b - nearF (2 * a * b * cosV s) 1000000000
def rootTo (n : Int) : Nat → Nat
  | 0 => 0
  | k + 1 => if ((k + 1 : Nat) : Int) * ((k + 1 : Nat) : Int) ≤ n then k + 1 else rootTo n k
/-- The square root, rounded down. -/
def rootF (n : Int) : Int := rootTo n n.toNat
theorem rootTo_ok (n : Int) (hn : 0 ≤ n) (k : Nat) : ((rootTo n k : Nat) : Int) * rootTo n k ≤ n ∧ rootTo n k ≤ k ∧ ∀ j : Nat, rootTo n k < j → j ≤ k → n < (j : Int) * j := by
  induction k with
  | zero => exact ⟨by simpa [rootTo] using hn, Nat.le_refl _, fun j h1 h2 => by omega⟩
  | succ k ih =>
    rw [rootTo]
    split
    · rename_i h; exact ⟨h, Nat.le_refl _, fun j h1 h2 => by omega⟩
    · rename_i h
      refine ⟨ih.1, by omega, fun j h1 h2 => ?_⟩
      by_cases e : j = k + 1
      · subst e; omega
      · exact ih.2.2 j h1 (by omega)
theorem sq_lt {a b : Int} (ha : 0 ≤ a) (h : a < b) : a * a < b * b := by
  have h1 : a * a ≤ a * b := Int.mul_le_mul_of_nonneg_left (by omega) ha
  have h2 : a * b < b * b := Int.mul_lt_mul_of_pos_right h (by omega)
  omega
theorem rootF_ok {n : Int} (hn : 0 ≤ n) : 0 ≤ rootF n ∧ rootF n * rootF n ≤ n ∧ n < (rootF n + 1) * (rootF n + 1) := by
  obtain ⟨a, b, c⟩ := rootTo_ok n hn n.toNat
  unfold rootF
  refine ⟨by omega, a, ?_⟩
  by_cases e : rootTo n n.toNat < n.toNat
  · have := c (rootTo n n.toNat + 1) (by omega) (by omega)
    simpa using this
  · have e2 : ((rootTo n n.toNat : Nat) : Int) = n := by omega
    rw [e2]
    have : n * 1 ≤ (n + 1) * (n + 1) - 1 := by
      rw [Int.add_mul, Int.mul_add]; have := Int.mul_nonneg hn hn; omega
    omega
theorem root_uniq {n r : Int} (hn : 0 ≤ n) (hr : 0 ≤ r) (h1 : r * r ≤ n) (h2 : n < (r + 1) * (r + 1)) : rootF n = r := by
  obtain ⟨a, b, c⟩ := rootF_ok hn
  by_cases h : rootF n < r
  · have := sq_lt (a := rootF n) (b := rootF n + 1) a (by omega)
    by_cases e : rootF n + 1 = r
    · rw [e] at c; omega
    · have := sq_lt (a := rootF n + 1) (b := r) (by omega) (by omega); omega
  · by_cases e : rootF n = r
    · exact e
    · by_cases e2 : r + 1 = rootF n
      · rw [e2] at h2; omega
      · have := sq_lt (a := r + 1) (b := rootF n) (by omega) (by omega); omega

/-! ### Contracts -/
set_option maxRecDepth 20000 in
set_option maxHeartbeats 800000 in
theorem root_c (n : Int) (w : World) (hn : 0 ≤ n ∧ n ≤ 4000000000000000000) : Calls Try.prog 68 #[.int .i64 n] w fun e w' => e = .returned (.int .i64 (rootF n)) ∧ w = w' := by
  go_enter Try.func68, Try.ntmps68
  go_wp2
  go_loop [3, 4] (fun a b => ∃ lo hi : Int, a = .int .i64 lo ∧ b = .int .i64 hi ∧ (0 ≤ lo ∧ lo ≤ hi ∧ hi ≤ 3037000499) ∧ Hid (lo * lo ≤ n ∧ n < (hi + 1) * (hi + 1))) (fun a b => (intOf b - intOf a).toNat)
  case atStart => exact ⟨0, 3037000499, rfl, rfl, by omega, by constructor <;> omega⟩
  case round =>
    obtain ⟨lo, hi, rfl, rfl, hb, HI⟩ := hrel
    by_cases hlt : lo < hi
    · obtain ⟨m, hm⟩ : ∃ m : Int, (lo + hi + 1) / 2 = m := ⟨_, rfl⟩
      have hm2 : lo < m ∧ m ≤ hi := by omega
      have hmm : m * m ≤ 9223372030926249001 := Int.mul_le_mul (c := 3037000499) (d := 3037000499) (by omega) (by omega) (by omega) (by omega)
      have hmn : 0 ≤ m * m := Int.mul_nonneg (by omega) (by omega)
      have hw1 : IntKind.i64.wrap (lo + hi) = lo + hi := IntWalk.i64_in _ (by omega)
      have hw2 : IntKind.i64.wrap (lo + hi + 1) = lo + hi + 1 := IntWalk.i64_in _ (by omega)
      have hw3 : IntKind.i64.wrap ((lo + hi + 1).tdiv 2) = m := by rw [Int.tdiv_eq_ediv_of_nonneg (by omega), hm]; exact IntWalk.i64_in _ (by omega)
      have hw4 : IntKind.i64.wrap (m * m) = m * m := IntWalk.i64_in _ (by omega)
      have hw5 : IntKind.i64.wrap (m - 1) = m - 1 := IntWalk.i64_in _ (by omega)
      by_cases hle : m * m ≤ n
      · have HN : Hid (m * m ≤ n ∧ n < (hi + 1) * (hi + 1)) := ⟨hle, HI.out.2⟩
        clear hmm hmn
        go_wp2
        go_round
        case rel => exact ⟨m, hi, by simp [hm], rfl, by omega, HN⟩
        case measure => simp [intOf]; omega
      · have HN : Hid (lo * lo ≤ n ∧ n < (m - 1 + 1) * (m - 1 + 1)) := ⟨HI.out.1, by rw [show m - 1 + 1 = m by omega]; omega⟩
        clear hmm hmn
        go_wp2
        go_round
        case rel => exact ⟨lo, m - 1, rfl, by simp [hm], by omega, HN⟩
        case measure => simp [intOf]; omega
    · obtain rfl : lo = hi := by omega
      have HN : Hid (rootF n = lo) := root_uniq hn.1 hb.1 HI.out.1 HI.out.2
      go_wp2
      go_ret
      exact ⟨ret_int HN.out.symm, rfl⟩
set_option maxRecDepth 20000 in
set_option maxHeartbeats 800000 in
theorem l02Root_c (n : Int) (w : World) (hn : 0 ≤ n ∧ n ≤ 4000000000000000000) : Calls Try.prog 65 #[.int .i64 n] w fun e w' => e = .returned (.int .i64 (rootF n)) ∧ w = w' := by
  go_enter Try.func65, Try.ntmps65
  go_wp2
  go_loop [3, 4] (fun a b => ∃ lo hi : Int, a = .int .i64 lo ∧ b = .int .i64 hi ∧ (0 ≤ lo ∧ lo < hi ∧ hi ≤ 2000000001) ∧ Hid (lo * lo ≤ n ∧ n < hi * hi)) (fun a b => (intOf b - intOf a).toNat)
  case atStart => exact ⟨0, 2000000001, rfl, rfl, by omega, by constructor <;> omega⟩
  case round =>
    obtain ⟨lo, hi, rfl, rfl, hb, HI⟩ := hrel
    have hw0 : IntKind.i64.wrap (lo + 1) = lo + 1 := IntWalk.i64_in _ (by omega)
    by_cases hlt : lo + 1 < hi
    · obtain ⟨m, hm⟩ : ∃ m : Int, (lo + hi) / 2 = m := ⟨_, rfl⟩
      have hm2 : lo < m ∧ m < hi := by omega
      have hmm : m * m ≤ 4000000004000000001 := Int.mul_le_mul (c := 2000000001) (d := 2000000001) (by omega) (by omega) (by omega) (by omega)
      have hmn : 0 ≤ m * m := Int.mul_nonneg (by omega) (by omega)
      have hw1 : IntKind.i64.wrap (lo + hi) = lo + hi := IntWalk.i64_in _ (by omega)
      have hw3 : IntKind.i64.wrap ((lo + hi).tdiv 2) = m := by rw [Int.tdiv_eq_ediv_of_nonneg (by omega), hm]; exact IntWalk.i64_in _ (by omega)
      have hw4 : IntKind.i64.wrap (m * m) = m * m := IntWalk.i64_in _ (by omega)
      by_cases hle : m * m ≤ n
      · have HN : Hid (m * m ≤ n ∧ n < hi * hi) := ⟨hle, HI.out.2⟩
        clear hmm hmn
        go_wp2
        go_round
        case rel => exact ⟨m, hi, by simp [hm], rfl, by omega, HN⟩
        case measure => simp [intOf]; omega
      · have HN : Hid (lo * lo ≤ n ∧ n < m * m) := ⟨HI.out.1, by omega⟩
        clear hmm hmn
        go_wp2
        go_round
        case rel => exact ⟨lo, m, rfl, by simp [hm], by omega, HN⟩
        case measure => simp [intOf]; omega
    · obtain rfl : hi = lo + 1 := by omega
      have HN : Hid (rootF n = lo) := root_uniq hn.1 hb.1 HI.out.1 HI.out.2
      go_wp2
      go_ret
      exact ⟨ret_int HN.out.symm, rfl⟩
set_option maxRecDepth 20000 in
set_option maxHeartbeats 800000 in
theorem firstCosine_c (s : Nat) (w : World) (hs : s ≤ 180) : Calls Try.prog 82 #[.int .i64 (s : Int)] w fun e w' => e = .returned (.int .i64 (cosF s)) ∧ w = w' := by
  by_cases h0 : s = 0
  · subst h0
    go_enter Try.func82, Try.ntmps82
    go_wp2
    go_ret
    exact ⟨rfl, rfl⟩
  by_cases h1 : s = 180
  · subst h1
    go_enter Try.func82, Try.ntmps82
    go_wp2
    go_ret
    exact ⟨rfl, rfl⟩
  have e0 : ((s : Int) == 0) = false := beq_eq_false_iff_ne.mpr (by omega)
  have e1 : ((s : Int) == 180) = false := beq_eq_false_iff_ne.mpr (by omega)
  have HC : Hid (cosF s = (cosP s).1) := if_neg h1
  go_enter Try.func82, Try.ntmps82
  go_wp2
  try rw [e0, e1]
  go_loop [3, 4, 5] (fun a b i => ∃ m : Nat, m ≤ s - 1 ∧ i = .int .i64 ((m : Int) + 2) ∧ a = .int .i64 (cosP m).1 ∧ b = .int .i64 (cosP m).2) (fun _ _ i => s + 5 - (intOf i).toNat)
  case atStart => exact ⟨0, by omega, rfl, rfl, rfl⟩
  case round =>
    obtain ⟨m, hm, rfl, rfl, rfl⟩ := hrel
    have hbd := cosP_bd (k := m) (by omega)
    have HN : Hid (cosP (m + 1) = ((cosP m).2, nearF (1999923846 * (cosP m).2) 1000000000 - (cosP m).1)) := rfl
    have HE : Hid (m = s - 1 → (cosP s).1 = (cosP m).2) := fun e => by rw [show s = m + 1 by omega]; rfl
    obtain ⟨A, hA⟩ : ∃ A, (cosP m).1 = A := ⟨_, rfl⟩
    obtain ⟨B, hB⟩ : ∃ B, (cosP m).2 = B := ⟨_, rfl⟩
    rw [hA, hB] at hbd HN ⊢
    rw [hB] at HE
    clear hA hB
    by_cases hlt : m < s - 1
    · have i1 : (m : Int) + 2 ≤ (s : Int) := by omega
      have hnb : -2000000001 ≤ nearF (1999923846 * B) 1000000000 ∧ nearF (1999923846 * B) 1000000000 ≤ 2000000001 := by unfold nearF; omega
      have hw1 : IntKind.i64.wrap (1999923846 * B) = 1999923846 * B := IntWalk.i64_in _ (by omega)
      have hw2 : IntKind.i64.wrap (nearF (1999923846 * B) 1000000000 - A) = nearF (1999923846 * B) 1000000000 - A := IntWalk.i64_in _ (by omega)
      have hw3 : IntKind.i64.wrap ((m : Int) + 2 + 1) = (m : Int) + 2 + 1 := IntWalk.i64_in _ (by omega)
      go_wp2_with (go_at_call 59; refine (nearest_c _ _ _ (by omega) (by omega)).mono ?_; rintro e w' ⟨rfl, rfl⟩)
      go_round
      case rel => exact ⟨m + 1, by omega, by go_num, by show Value.int .i64 _ = Value.int .i64 (cosP (m + 1)).1; rw [HN.out], by show Value.int .i64 _ = Value.int .i64 (cosP (m + 1)).2; rw [HN.out]⟩
      case measure => simp [intOf]; omega
    · obtain rfl : m = s - 1 := by omega
      have i1 : ¬ ((s - 1 : Nat) : Int) + 2 ≤ (s : Int) := by omega
      have HR : Hid (cosF s = B) := by show _ = _; rw [HC.out, HE.out rfl]
      go_wp2
      go_ret
      exact ⟨ret_int HR.out.symm, rfl⟩
set_option maxHeartbeats 1600000 in
theorem cosine_c (s : Int) (w : World) (hs : 0 ≤ s ∧ s < 360) : Calls Try.prog 77 #[.int .i64 s] w fun e w' => e = .returned (.int .i64 (cosV s)) ∧ w = w' := by
  obtain ⟨n, rfl⟩ := Int.eq_ofNat_of_zero_le hs.1
  have HM : Hid ((n : Int) % 720 = (n : Int)) := Int.emod_eq_of_lt (by omega) (by omega)
  by_cases h : (n : Int) ≤ 180
  · have HV : Hid (cosV (n : Int) = cosF n) := by show _ = _; unfold cosV; rw [if_pos h]; rfl
    have h3 : ¬ (360 : Int) < (n : Int) := by omega
    go_enter Try.func77, Try.ntmps77
    go_wp2_with (first | (go_at_call 81; refine ((floorMod_c _ _ _ (by omega) (by omega)).mono (fun _ _ hh => by rw [HM.out] at hh; exact hh)).mono ?_; rintro e w' ⟨rfl, rfl⟩) | (go_at_call 82; refine (firstCosine_c _ _ (by omega)).mono ?_; rintro e w' ⟨rfl, rfl⟩))
    go_ret
    exact ⟨ret_int HV.out.symm, rfl⟩
  · have HV : Hid (cosV (n : Int) = -cosF (360 - n)) := by show _ = _; unfold cosV; rw [if_neg h]; congr 2; omega
    have h3 : ¬ (360 : Int) < (n : Int) := by omega
    have hb := cosF_bd (s := 360 - n) (by omega)
    have hw1 : IntKind.i64.wrap (360 - (n : Int)) = ((360 - n : Nat) : Int) := by rw [show (360 : Int) - (n : Int) = ((360 - n : Nat) : Int) by omega]; exact IntWalk.i64_in _ (by omega)
    have hw2 : IntKind.i64.wrap (-cosF (360 - n)) = -cosF (360 - n) := IntWalk.i64_in _ (by omega)
    have HF := Lib.hid (fun w => firstCosine_c (360 - n) w (by omega))
    go_enter Try.func77, Try.ntmps77
    go_wp2_with (first | (go_at_call 81; refine ((floorMod_c _ _ _ (by omega) (by omega)).mono (fun _ _ hh => by rw [HM.out] at hh; exact hh)).mono ?_; rintro e w' ⟨rfl, rfl⟩) | (go_at_call 82; refine (HF.out _).mono ?_; rintro e w' ⟨rfl, rfl⟩))
    go_ret
    exact ⟨ret_int HV.out.symm, rfl⟩
theorem sqB_bd {a b s : Int} (ha : 0 ≤ a ∧ a ≤ 7000) (hb : 0 ≤ b ∧ b ≤ 1200) (hs : 0 ≤ s ∧ s < 360) : (0 ≤ a * a ∧ a * a ≤ 49000000) ∧ (0 ≤ b * b ∧ b * b ≤ 1440000) ∧ (0 ≤ 2 * a * b ∧ 2 * a * b ≤ 16800000) ∧ (-16800000000000000 ≤ 2 * a * b * cosV s ∧ 2 * a * b * cosV s ≤ 16800000000000000) ∧
    (-(2 * a * b) ≤ nearF (2 * a * b * cosV s) 1000000000 ∧ nearF (2 * a * b * cosV s) 1000000000 ≤ 2 * a * b) := by
  have h1 := Int.mul_le_mul ha.2 ha.2 ha.1 (by omega)
  have h2 := Int.mul_le_mul hb.2 hb.2 hb.1 (by omega)
  have h3 := Int.mul_le_mul ha.2 hb.2 hb.1 (by omega)
  have n1 := Int.mul_nonneg ha.1 ha.1
  have n2 := Int.mul_nonneg hb.1 hb.1
  have n3 := Int.mul_nonneg ha.1 hb.1
  have e : 2 * a * b = 2 * (a * b) := Int.mul_assoc _ _ _
  rw [e]
  generalize a * b = p at h3 n3
  have hc := cosV_bd hs
  generalize cosV s = c at hc
  have m1 : 2 * p * c ≤ 2 * p * 1000000000 := Int.mul_le_mul_of_nonneg_left hc.2 (by omega)
  have m2 : 2 * p * (-1000000000) ≤ 2 * p * c := Int.mul_le_mul_of_nonneg_left hc.1 (by omega)
  generalize 2 * p * c = q at m1 m2
  refine ⟨by omega, by omega, by omega, by omega, ?_⟩
  unfold nearF; omega
set_option maxHeartbeats 800000 in
theorem squareBetween_c (a b s : Int) (w : World) (ha : 0 ≤ a ∧ a ≤ 7000) (hb : 0 ≤ b ∧ b ≤ 1200) (hs : 0 ≤ s ∧ s < 360) : Calls Try.prog 69 #[.int .i64 a, .int .i64 b, .int .i64 s] w fun e w' => e = .returned (.int .i64 (sqB a b s)) ∧ w = w' := by
  obtain ⟨b1, b2, b3, b4, b5⟩ := sqB_bd ha hb hs
  have hw1 : IntKind.i64.wrap (a * a) = a * a := IntWalk.i64_in _ (by omega)
  have hw2 : IntKind.i64.wrap (b * b) = b * b := IntWalk.i64_in _ (by omega)
  have hw3 : IntKind.i64.wrap (a * a + b * b) = a * a + b * b := IntWalk.i64_in _ (by omega)
  have hw4 : IntKind.i64.wrap (2 * a) = 2 * a := IntWalk.i64_in _ (by omega)
  have hw5 : IntKind.i64.wrap (2 * a * b) = 2 * a * b := IntWalk.i64_in _ (by omega)
  have hw6 : IntKind.i64.wrap (2 * a * b * cosV s) = 2 * a * b * cosV s := IntWalk.i64_in _ (by omega)
  have hw7 : IntKind.i64.wrap (a * a + b * b - nearF (2 * a * b * cosV s) 1000000000) = a * a + b * b - nearF (2 * a * b * cosV s) 1000000000 := IntWalk.i64_in _ (by omega)
  have HN := Lib.hid (nearest_c (2 * a * b * cosV s) 1000000000 w (by omega) (by omega))
  clear b1 b2 b3 b4 b5
  go_enter Try.func69, Try.ntmps69
  go_wp2_with (first | (go_at_call 77; refine (cosine_c _ _ hs).mono ?_; rintro e w' ⟨rfl, rfl⟩) | (go_at_call 59; refine (HN.out).mono ?_; rintro e w' ⟨rfl, rfl⟩))
  go_ret
  exact ⟨rfl, rfl⟩
end Go.Proofs.Ytbjeaadnanimfaa
