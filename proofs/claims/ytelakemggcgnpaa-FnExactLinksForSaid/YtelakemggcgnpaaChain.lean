/- The contracts of chapter 10 (chains): needs, links, stays. -/
import Derived.Test.YtelakemggcgnpaaNum
namespace Go.Proofs.Ytelakemggcgnpaa
open Go.RowKit
set_option linter.unusedVariables false

def needF (s f r : Int) : Int :=
  (2000 * s + 127 - 1) / 127 + 500 * (f + r) + ((f - r) * (f - r) * 127 * 1000000000 + 39478418 * s - 1) / (39478418 * s)
theorem sq_bd (x M : Int) (h : -M ≤ x ∧ x ≤ M) : 0 ≤ x * x ∧ x * x ≤ M * M := by
  have hM : 0 ≤ M := by omega
  by_cases h0 : 0 ≤ x
  · exact ⟨Int.mul_nonneg h0 h0, Int.mul_le_mul h.2 h.2 h0 hM⟩
  · have e : x * x = (-x) * (-x) := by rw [Int.neg_mul_neg]
    rw [e]; exact ⟨Int.mul_nonneg (by omega) (by omega), Int.mul_le_mul (by omega) (by omega) (by omega) hM⟩
/-- The premises of chapter 10. -/
def StayOk (s f r : Int) : Prop := (3000 ≤ s ∧ s ≤ 6000) ∧ (20 ≤ f ∧ f ≤ 60) ∧ (9 ≤ r ∧ r ≤ 52)
theorem need_bds (s f r : Int) (h : StayOk s f r) : 0 ≤ (f - r) * (f - r) ∧ (f - r) * (f - r) ≤ 2601 ∧
    (0 ≤ (2000 * s + 127 - 1) / 127 ∧ (2000 * s + 127 - 1) / 127 ≤ 12000127) ∧
    (0 ≤ ((f - r) * (f - r) * 127 * 1000000000 + 39478418 * s - 1) / (39478418 * s) ∧ ((f - r) * (f - r) * 127 * 1000000000 + 39478418 * s - 1) / (39478418 * s) ≤ 1000000000000000) := by
  obtain ⟨⟨a, b⟩, ⟨c, d⟩, e, g⟩ := h
  have h1 := sq_bd (f - r) 51 (by omega)
  refine ⟨h1.1, by omega, by omega, ?_⟩
  generalize (f - r) * (f - r) = q at h1
  have h2 : 0 ≤ q * 127 * 1000000000 + 39478418 * s - 1 := by omega
  exact ⟨Int.ediv_nonneg h2 (by omega), by have := Int.ediv_le_self (39478418 * s) h2; omega⟩
theorem needF_bd (s f r : Int) (h : StayOk s f r) : 0 ≤ needF s f r ∧ needF s f r ≤ 2000000000000000 := by
  have h1 := need_bds s f r h
  unfold needF
  obtain ⟨⟨a, b⟩, ⟨c, d⟩, e, g⟩ := h
  omega

def linksB (n : Int) : Bool := decide (40 ≤ n ∧ n ≤ 200 ∧ n % 2 = 0)
theorem l10Links_c (n : Int) (w : World) :
    Calls Try.prog 15 #[.int .i64 n] w fun e w' => e = .returned (.bool (linksB n)) ∧ w = w' := by
  cases h : inB n 40 200
  · have h2 : linksB n = false := decide_eq_false (by have := inB_f h; omega)
    have H2 := Lib.hid h2; clear h2
    go_enter Try.func15, Try.ntmps15
    go_wp2_with (go_at_call 23; refine (l01In_c _ _ _ _).mono ?_; rintro e w' ⟨rfl, rfl⟩)
    go_ret
    exact ⟨ret_bool H2.out.symm, rfl⟩
  · have h1 := inB_t h
    have h3 : linksB n = (n % 2 == 0) := by rw [Bool.eq_iff_iff]; simp [linksB]; omega
    have H2 := Lib.hid h3; clear h3
    go_enter Try.func15, Try.ntmps15
    go_wp2_with (go_at_call 23; refine (l01In_c _ _ _ _).mono ?_; rintro e w' ⟨rfl, rfl⟩)
    go_ret
    exact ⟨ret_bool H2.out.symm, rfl⟩
theorem areLinks_c (n : Int) (w : World) :
    Calls Try.prog 16 #[.int .i64 n] w fun e w' => e = .returned (.bool (linksB n)) ∧ w = w' := by
  cases h : inB n 40 200
  · have h2 : linksB n = false := decide_eq_false (by have := inB_f h; omega)
    have H2 := Lib.hid h2; clear h2
    go_enter Try.func16, Try.ntmps16
    go_wp2_with (go_at_call 24; refine (within_c _ _ _ _).mono ?_; rintro e w' ⟨rfl, rfl⟩)
    go_ret
    exact ⟨ret_bool H2.out.symm, rfl⟩
  · have h1 := inB_t h
    have h3 : linksB n = (n % 2 == 0) := by rw [Bool.eq_iff_iff]; simp [linksB]; omega
    have H2 := Lib.hid h3; clear h3
    go_enter Try.func16, Try.ntmps16
    go_wp2_with (go_at_call 24; refine (within_c _ _ _ _).mono ?_; rintro e w' ⟨rfl, rfl⟩)
    go_ret
    exact ⟨ret_bool H2.out.symm, rfl⟩
theorem l10Stay_c (n : Int) (w : World) :
    Calls Try.prog 25 #[.int .i64 n] w fun e w' => e = .returned (.bool (inB n 3000 6000)) ∧ w = w' := by
  go_enter Try.func25, Try.ntmps25
  go_wp2_with (go_at_call 23; refine (l01In_c _ _ _ _).mono ?_; rintro e w' ⟨rfl, rfl⟩)
  go_ret
  exact ⟨rfl, rfl⟩
theorem isStay_c (n : Int) (w : World) :
    Calls Try.prog 19 #[.int .i64 n] w fun e w' => e = .returned (.bool (inB n 3000 6000)) ∧ w = w' := by
  go_enter Try.func19, Try.ntmps19
  go_wp2_with (go_at_call 24; refine (within_c _ _ _ _).mono ?_; rintro e w' ⟨rfl, rfl⟩)
  go_ret
  exact ⟨rfl, rfl⟩
def toothB (f r : Int) : Bool := inB f 20 60 && inB r 9 52
def stayB (s f r : Int) : Bool := inB s 3000 6000 && toothB f r
theorem stayB_t {s f r : Int} (h : stayB s f r = true) : StayOk s f r := by
  simp only [stayB, toothB, Bool.and_eq_true] at h
  exact ⟨inB_t h.1, inB_t h.2.1, inB_t h.2.2⟩
theorem areToothed_c (f r : Int) (w : World) :
    Calls Try.prog 20 #[.int .i64 f, .int .i64 r] w fun e w' => e = .returned (.bool (toothB f r)) ∧ w = w' := by
  cases h : inB f 20 60
  all_goals
    have H2 := Lib.hid (show toothB f r = _ from by rw [toothB, h])
    go_enter Try.func20, Try.ntmps20
    go_wp2_with (go_at_call 24; refine (within_c _ _ _ _).mono ?_; rintro e w' ⟨rfl, rfl⟩)
    go_ret
    exact ⟨ret_bool (by rw [H2.out]; simp), rfl⟩
def codeR (b : Bool) : Int := if b then 0 else 2
theorem l10Code_c (s f r : Int) (w : World) :
    Calls Try.prog 17 #[.int .i64 s, .int .i64 f, .int .i64 r] w fun e w' => e = .returned (.int .i64 (codeR (stayB s f r))) ∧ w = w' := by
  cases h1 : inB s 3000 6000 <;> cases h2 : inB f 20 60 <;> cases h3 : inB r 9 52
  all_goals
    have H := Lib.hid (show stayB s f r = _ from by rw [stayB, toothB, h1, h2, h3])
    go_enter Try.func17, Try.ntmps17
    go_wp2_with (first | (go_at_call 23; refine (l01In_c _ _ _ _).mono ?_; rintro e w' ⟨rfl, rfl⟩) | (go_at_call 25; refine (l10Stay_c _ _).mono ?_; rintro e w' ⟨rfl, rfl⟩))
    go_ret
    exact ⟨ret_int (by rw [H.out]; rfl), rfl⟩
theorem l10Need_c (s f r : Int) (w : World) (h : StayOk s f r) :
    Calls Try.prog 18 #[.int .i64 s, .int .i64 f, .int .i64 r] w fun e w' => e = .returned (.int .i64 (needF s f r)) ∧ w = w' := by
  obtain ⟨h1, h2, h3, h4⟩ := need_bds s f r h
  obtain ⟨⟨a, b⟩, ⟨c, d⟩, e, g⟩ := h
  go_enter Try.func18, Try.ntmps18
  go_wp2_with (go_at_call 26; refine (l01Ceil_c _ _ _ (by omega) (by omega) (by omega)).mono ?_; rintro e w' ⟨rfl, rfl⟩)
  go_ret
  exact ⟨rfl, rfl⟩
theorem need_c (s f r : Int) (w : World) (h : StayOk s f r) :
    Calls Try.prog 21 #[.int .i64 s, .int .i64 f, .int .i64 r] w fun e w' => e = .returned (.int .i64 (needF s f r)) ∧ w = w' := by
  obtain ⟨h1, h2, h3, h4⟩ := need_bds s f r h
  obtain ⟨⟨a, b⟩, ⟨c, d⟩, e, g⟩ := h
  go_enter Try.func21, Try.ntmps21
  go_wp2_with (go_at_call 27; refine (ceilDiv_c _ _ _ (by omega) (by omega) (by omega)).mono ?_; rintro e w' ⟨rfl, rfl⟩)
  go_ret
  exact ⟨rfl, rfl⟩
/-! ### A search upwards -/
def srch (p : Nat → Bool) : Nat → Nat → Option Nat
  | _, 0 => none
  | k, n + 1 => if p k then some k else srch p (k + 1) n
theorem srch_hit {p : Nat → Bool} {k n : Nat} (h : p k = true) : srch p k (n + 1) = some k := by simp [srch, h]
theorem srch_miss {p : Nat → Bool} {k n : Nat} (h : p k = false) : srch p k (n + 1) = srch p (k + 1) n := by simp [srch, h]
theorem srch_some {p : Nat → Bool} {n k j : Nat} (h : srch p k n = some j) : k ≤ j ∧ j < k + n ∧ p j = true ∧ ∀ i, k ≤ i → i < j → p i = false := by
  induction n generalizing k with
  | zero => simp [srch] at h
  | succ n ih =>
    cases hp : p k
    · rw [srch_miss hp] at h
      obtain ⟨a, b, c, d⟩ := ih h
      refine ⟨by omega, by omega, c, fun i h1 h2 => ?_⟩
      by_cases e : i = k
      · subst e; exact hp
      · exact d i (by omega) h2
    · rw [srch_hit hp] at h
      obtain rfl : k = j := by simpa using h
      exact ⟨by omega, by omega, hp, fun i h1 h2 => by omega⟩
theorem srch_none {p : Nat → Bool} {n k : Nat} (h : srch p k n = none) : ∀ i, k ≤ i → i < k + n → p i = false := by
  induction n generalizing k with
  | zero => intro i h1 h2; omega
  | succ n ih =>
    cases hp : p k
    · rw [srch_miss hp] at h
      intro i h1 h2
      by_cases e : i = k
      · subst e; exact hp
      · exact ih h i (by omega) (by omega)
    · rw [srch_hit hp] at h; simp at h
def linkP (s f r : Int) (k : Nat) : Bool := decide (needF s f r ≤ 1000 * (40 + 2 * (k : Int)))
def linkS (s f r : Int) : Option Nat := srch (linkP s f r) 0 81
/-- The number of links, or 0. -/
def linkV (s f r : Int) : Int := match linkS s f r with | some k => 40 + 2 * (k : Int) | none => 0
def linkE (s f r : Int) : Int := match linkS s f r with | some _ => 0 | none => 4
theorem linkV_hit {s f r : Int} {k : Nat} (hk : k < 81) (h : linkS s f r = srch (linkP s f r) k (81 - k)) (hp : needF s f r ≤ 1000 * (40 + 2 * (k : Int))) :
    linkV s f r = 40 + 2 * (k : Int) ∧ linkE s f r = 0 := by
  rw [show 81 - k = (80 - k) + 1 by omega, srch_hit (decide_eq_true hp)] at h
  simp [linkV, linkE, h]
theorem linkV_miss {s f r : Int} {k : Nat} (hk : k < 81) (h : linkS s f r = srch (linkP s f r) k (81 - k)) (hp : ¬ needF s f r ≤ 1000 * (40 + 2 * (k : Int))) :
    linkS s f r = srch (linkP s f r) (k + 1) (81 - (k + 1)) := by
  rw [h, show 81 - k = (80 - k) + 1 by omega, srch_miss (decide_eq_false hp), show 80 - k = 81 - (k + 1) by omega]
theorem linkV_end {s f r : Int} (h : linkS s f r = srch (linkP s f r) 81 (81 - 81)) : linkV s f r = 0 ∧ linkE s f r = 4 := by
  simp [srch] at h; simp [linkV, linkE, h]

set_option maxHeartbeats 400000 in
theorem linksFor_c (s f r : Int) (w : World) (h : StayOk s f r) :
    Calls Try.prog 22 #[.int .i64 s, .int .i64 f, .int .i64 r] w fun e w' => e = .returned (.int .i64 (linkV s f r)) ∧ w = w' := by
  have hb := needF_bd s f r h
  go_enter Try.func22, Try.ntmps22
  go_wp2
  go_loop [7] (fun l => ∃ k : Nat, k ≤ 81 ∧ l = .int .i64 (40 + 2 * (k : Int)) ∧ Hid (linkS s f r = srch (linkP s f r) k (81 - k))) (fun l => (300 - intOf l).toNat)
  case atStart => exact ⟨0, by omega, rfl, rfl⟩
  case round =>
    obtain ⟨k, hk, rfl, H⟩ := hrel
    by_cases hlt : k < 81
    · by_cases hp : needF s f r ≤ 1000 * (40 + 2 * (k : Int))
      · have H2 := Lib.hid (linkV_hit hlt H hp)
        go_wp2_with (go_at_call 21; refine (need_c _ _ _ _ h).mono ?_; rintro e w' ⟨rfl, rfl⟩)
        go_ret
        exact ⟨ret_int H2.out.1.symm, rfl⟩
      · have H2 := Lib.hid (linkV_miss hlt H hp)
        go_wp2_with (go_at_call 21; refine (need_c _ _ _ _ h).mono ?_; rintro e w' ⟨rfl, rfl⟩)
        go_round
        case rel => exact ⟨k + 1, by omega, congrArg (Value.int .i64) (by omega), H2⟩
        case measure => simp [intOf]; omega
    · obtain rfl : k = 81 := by omega
      have H2 := Lib.hid (linkV_end H)
      go_wp2
      go_ret
      exact ⟨ret_int H2.out.1.symm, rfl⟩
/-- The value, or 0; and the code, 0 or c. -/
def okV (b : Bool) (v : Int) : Int := if b then v else 0
def okE (b : Bool) (c : Int) : Int := if b then 0 else c
theorem iNeedOf_c (s f r : Int) (w : World) :
    Calls Try.prog 10 #[.int .i64 s, .int .i64 f, .int .i64 r] w fun e w' => e = .returned (.tuple #[.int .i64 (okV (stayB s f r) (needF s f r)), .int .i64 (okE (stayB s f r) 2)]) ∧ w = w' := by
  cases h : stayB s f r
  · have H := Lib.hid h; clear h
    cases h1 : inB s 3000 6000 <;> cases h2 : toothB f r
    case true.true => exact absurd (show stayB s f r = true by rw [stayB, h1, h2]; rfl) (by rw [show stayB s f r = false from H]; simp)
    all_goals
      go_enter Try.func10, Try.ntmps10
      go_wp2_with (first | (go_at_call 19; refine (isStay_c _ _).mono ?_; rintro e w' ⟨rfl, rfl⟩) | (go_at_call 20; refine (areToothed_c _ _ _).mono ?_; rintro e w' ⟨rfl, rfl⟩))
      go_ret2
      exact ⟨rfl, rfl⟩
  · have hs := stayB_t h
    have h1 : inB s 3000 6000 = true := by simp [stayB] at h; exact h.1
    have h2 : toothB f r = true := by simp [stayB] at h; exact h.2
    clear h
    go_enter Try.func10, Try.ntmps10
    go_wp2_with (first | (go_at_call 19; refine (isStay_c _ _).mono ?_; rintro e w' ⟨rfl, rfl⟩) | (go_at_call 20; refine (areToothed_c _ _ _).mono ?_; rintro e w' ⟨rfl, rfl⟩) | (go_at_call 21; refine (need_c _ _ _ _ hs).mono ?_; rintro e w' ⟨rfl, rfl⟩))
    go_ret2
    exact ⟨rfl, rfl⟩
theorem sNeedOf_c (s f r : Int) (w : World) :
    Calls Try.prog 9 #[.int .i64 s, .int .i64 f, .int .i64 r] w fun e w' => e = .returned (.tuple #[.int .i64 (okV (stayB s f r) (needF s f r)), .int .i64 (okE (stayB s f r) 2)]) ∧ w = w' := by
  cases h : stayB s f r
  · have h1 : codeR false = 2 := rfl
    go_enter Try.func9, Try.ntmps9
    go_wp2_with (go_at_call 17; refine (l10Code_c _ _ _ _).mono ?_; rintro e w' ⟨rfl, rfl⟩)
    go_ret2
    exact ⟨rfl, rfl⟩
  · have h1 : codeR true = 0 := rfl
    have hs := stayB_t h
    go_enter Try.func9, Try.ntmps9
    go_wp2_with (first | (go_at_call 17; refine (l10Code_c _ _ _ _).mono ?_; rintro e w' ⟨rfl, rfl⟩) | (go_at_call 18; refine (l10Need_c _ _ _ _ hs).mono ?_; rintro e w' ⟨rfl, rfl⟩))
    go_ret2
    exact ⟨rfl, rfl⟩
def bothV (b : Bool) (v : Int) : Int := if b then v else 0
def bothE (b : Bool) (c : Int) : Int := if b then c else 2
theorem iLinksFor_c (s f r : Int) (w : World) :
    Calls Try.prog 14 #[.int .i64 s, .int .i64 f, .int .i64 r] w fun e w' => e = .returned (.tuple #[.int .i64 (bothV (stayB s f r) (linkV s f r)), .int .i64 (bothE (stayB s f r) (linkE s f r))]) ∧ w = w' := by
  cases h : stayB s f r
  · have H := Lib.hid h; clear h
    cases h1 : inB s 3000 6000 <;> cases h2 : toothB f r
    case true.true => exact absurd (show stayB s f r = true by rw [stayB, h1, h2]; rfl) (by rw [show stayB s f r = false from H]; simp)
    all_goals
      go_enter Try.func14, Try.ntmps14
      go_wp2_with (first | (go_at_call 19; refine (isStay_c _ _).mono ?_; rintro e w' ⟨rfl, rfl⟩) | (go_at_call 20; refine (areToothed_c _ _ _).mono ?_; rintro e w' ⟨rfl, rfl⟩))
      go_ret2
      exact ⟨rfl, rfl⟩
  · have hs := stayB_t h
    have h1 : inB s 3000 6000 = true := by simp [stayB] at h; exact h.1
    have h2 : toothB f r = true := by simp [stayB] at h; exact h.2
    clear h
    cases hl : linkS s f r with
    | none =>
      have h3 : linkV s f r = 0 := by simp [linkV, hl]
      have h4 : linkE s f r = 4 := by simp [linkE, hl]
      clear hl
      go_enter Try.func14, Try.ntmps14
      go_wp2_with (first | (go_at_call 19; refine (isStay_c _ _).mono ?_; rintro e w' ⟨rfl, rfl⟩) | (go_at_call 20; refine (areToothed_c _ _ _).mono ?_; rintro e w' ⟨rfl, rfl⟩) | (go_at_call 22; refine (linksFor_c _ _ _ _ hs).mono ?_; rintro e w' ⟨rfl, rfl⟩))
      go_ret2
      exact ⟨ret_int2 h3.symm h4.symm, rfl⟩
    | some k =>
      have h3 : linkV s f r = 40 + 2 * (k : Int) := by simp [linkV, hl]
      have h4 : linkE s f r = 0 := by simp [linkE, hl]
      have h5 : (40 + 2 * (k : Int) == 0) = false := by rw [beq_eq_false_iff_ne]; omega
      clear hl
      go_enter Try.func14, Try.ntmps14
      go_wp2_with (first | (go_at_call 19; refine (isStay_c _ _).mono ?_; rintro e w' ⟨rfl, rfl⟩) | (go_at_call 20; refine (areToothed_c _ _ _).mono ?_; rintro e w' ⟨rfl, rfl⟩) | (go_at_call 22; refine (linksFor_c _ _ _ _ hs).mono ?_; rintro e w' ⟨rfl, rfl⟩))
      go_ret2
      exact ⟨ret_int2 h3.symm h4.symm, rfl⟩
theorem sLinksFor_c (s f r : Int) (w : World) :
    Calls Try.prog 13 #[.int .i64 s, .int .i64 f, .int .i64 r] w fun e w' => e = .returned (.tuple #[.int .i64 (bothV (stayB s f r) (linkV s f r)), .int .i64 (bothE (stayB s f r) (linkE s f r))]) ∧ w = w' := by
  cases h : stayB s f r
  · have h1 : codeR false = 2 := rfl
    go_enter Try.func13, Try.ntmps13
    go_wp2_with (go_at_call 17; refine (l10Code_c _ _ _ _).mono ?_; rintro e w' ⟨rfl, rfl⟩)
    go_ret2
    exact ⟨rfl, rfl⟩
  · have h1 : codeR true = 0 := rfl
    have hs := stayB_t h
    have hb := needF_bd s f r hs
    have e1 : ∀ v, bothV true v = v := fun _ => rfl
    have e2 : ∀ v, bothE true v = v := fun _ => rfl
    go_enter Try.func13, Try.ntmps13
    go_wp2_with (go_at_call 17; refine (l10Code_c _ _ _ _).mono ?_; rintro e w' ⟨rfl, rfl⟩)
    go_loop [9] (fun l => ∃ k : Nat, k ≤ 81 ∧ l = .int .i64 (40 + 2 * (k : Int)) ∧ Hid (linkS s f r = srch (linkP s f r) k (81 - k))) (fun l => (300 - intOf l).toNat)
    case atStart => exact ⟨0, by omega, rfl, rfl⟩
    case round =>
      obtain ⟨k, hk, rfl, H⟩ := hrel
      by_cases hlt : k < 81
      · by_cases hp : needF s f r ≤ 1000 * (40 + 2 * (k : Int))
        · have H2 := Lib.hid (linkV_hit hlt H hp)
          go_wp2_with (go_at_call 18; refine (l10Need_c _ _ _ _ hs).mono ?_; rintro e w' ⟨rfl, rfl⟩)
          go_ret2
          exact ⟨ret_int2 H2.out.1.symm H2.out.2.symm, rfl⟩
        · have H2 := Lib.hid (linkV_miss hlt H hp)
          go_wp2_with (go_at_call 18; refine (l10Need_c _ _ _ _ hs).mono ?_; rintro e w' ⟨rfl, rfl⟩)
          go_round
          case rel => exact ⟨k + 1, by omega, congrArg (Value.int .i64) (by omega), H2⟩
          case measure => simp [intOf]; omega
      · obtain rfl : k = 81 := by omega
        have H2 := Lib.hid (linkV_end H)
        go_wp2
        go_ret2
        exact ⟨ret_int2 H2.out.1.symm H2.out.2.symm, rfl⟩

/-! ### The greatest stay -/
def stayP (l f r : Int) (k : Nat) : Bool := decide (needF (6000 - (k : Int)) f r ≤ 1000 * l)
def stayS (l f r : Int) : Option Nat := srch (stayP l f r) 0 3001
def stayV (l f r : Int) : Int := match stayS l f r with | some k => 6000 - (k : Int) | none => 0
def stayE (l f r : Int) : Int := match stayS l f r with | some _ => 0 | none => 4
theorem stayV_hit {l f r : Int} {k : Nat} (hk : k < 3001) (h : stayS l f r = srch (stayP l f r) k (3001 - k)) (hp : needF (6000 - (k : Int)) f r ≤ 1000 * l) :
    stayV l f r = 6000 - (k : Int) ∧ stayE l f r = 0 := by
  rw [show 3001 - k = (3000 - k) + 1 by omega, srch_hit (decide_eq_true hp)] at h
  simp [stayV, stayE, h]
theorem stayV_miss {l f r : Int} {k : Nat} (hk : k < 3001) (h : stayS l f r = srch (stayP l f r) k (3001 - k)) (hp : ¬ needF (6000 - (k : Int)) f r ≤ 1000 * l) :
    stayS l f r = srch (stayP l f r) (k + 1) (3001 - (k + 1)) := by
  rw [h, show 3001 - k = (3000 - k) + 1 by omega, srch_miss (decide_eq_false hp), show 3000 - k = 3001 - (k + 1) by omega]
theorem stayV_end {l f r : Int} (h : stayS l f r = srch (stayP l f r) 3001 (3001 - 3001)) : stayV l f r = 0 ∧ stayE l f r = 4 := by
  simp [srch] at h; simp [stayV, stayE, h]
def stayAllB (l f r : Int) : Bool := linksB l && toothB f r
theorem stayAllB_t {l f r : Int} (h : stayAllB l f r = true) : (40 ≤ l ∧ l ≤ 200) ∧ (20 ≤ f ∧ f ≤ 60) ∧ (9 ≤ r ∧ r ≤ 52) := by
  simp only [stayAllB, toothB, Bool.and_eq_true] at h
  have h1 : 40 ≤ l ∧ l ≤ 200 ∧ l % 2 = 0 := of_decide_eq_true h.1
  exact ⟨⟨h1.1, h1.2.1⟩, inB_t h.2.1, inB_t h.2.2⟩
set_option maxHeartbeats 400000 in
theorem iStayFor_c (l f r : Int) (w : World) :
    Calls Try.prog 12 #[.int .i64 l, .int .i64 f, .int .i64 r] w fun e w' => e = .returned (.tuple #[.int .i64 (bothV (stayAllB l f r) (stayV l f r)), .int .i64 (bothE (stayAllB l f r) (stayE l f r))]) ∧ w = w' := by
  cases h : stayAllB l f r
  · have H := Lib.hid h; clear h
    cases h1 : linksB l <;> cases h2 : toothB f r
    case true.true => exact absurd (show stayAllB l f r = true by rw [stayAllB, h1, h2]; rfl) (by rw [show stayAllB l f r = false from H]; simp)
    all_goals
      go_enter Try.func12, Try.ntmps12
      go_wp2_with (first | (go_at_call 16; refine (areLinks_c _ _).mono ?_; rintro e w' ⟨rfl, rfl⟩) | (go_at_call 20; refine (areToothed_c _ _ _).mono ?_; rintro e w' ⟨rfl, rfl⟩))
      go_ret2
      exact ⟨rfl, rfl⟩
  · have hl := stayAllB_t h
    have h1 : linksB l = true := by simp [stayAllB] at h; exact h.1
    have h2 : toothB f r = true := by simp [stayAllB] at h; exact h.2
    clear h
    have hbd : ∀ k : Nat, k < 3001 → StayOk (6000 - (k : Int)) f r := fun k hk => ⟨by omega, hl.2.1, hl.2.2⟩
    obtain ⟨hl1, hl2, hl3⟩ := hl
    have HB := Lib.hid hbd; clear hbd
    go_enter Try.func12, Try.ntmps12
    go_wp2_with (first | (go_at_call 16; refine (areLinks_c _ _).mono ?_; rintro e w' ⟨rfl, rfl⟩) | (go_at_call 20; refine (areToothed_c _ _ _).mono ?_; rintro e w' ⟨rfl, rfl⟩))
    go_loop [8] (fun s => ∃ k : Nat, k ≤ 3001 ∧ s = .int .i64 (6000 - (k : Int)) ∧ Hid (stayS l f r = srch (stayP l f r) k (3001 - k))) (fun s => (intOf s).toNat)
    case atStart => exact ⟨0, by omega, rfl, rfl⟩
    case round =>
      obtain ⟨k, hk, rfl, H⟩ := hrel
      by_cases hlt : k < 3001
      · have hst := HB.out k hlt
        have hnb := needF_bd _ _ _ hst
        have hst := Lib.hid hst
        by_cases hp : needF (6000 - (k : Int)) f r ≤ 1000 * l
        · have H2 := Lib.hid (stayV_hit hlt H.out hp)
          go_wp2_with (go_at_call 21; refine (need_c _ _ _ _ hst).mono ?_; rintro e w' ⟨rfl, rfl⟩)
          go_ret2
          exact ⟨ret_int2 H2.out.1.symm H2.out.2.symm, rfl⟩
        · have H2 := Lib.hid (stayV_miss hlt H.out hp)
          go_wp2_with (go_at_call 21; refine (need_c _ _ _ _ hst).mono ?_; rintro e w' ⟨rfl, rfl⟩)
          go_round
          case rel => exact ⟨k + 1, by omega, congrArg (Value.int .i64) (by omega), H2⟩
          case measure => simp [intOf]; omega
      · obtain rfl : k = 3001 := by omega
        have H2 := Lib.hid (stayV_end H.out)
        go_wp2
        go_ret2
        exact ⟨ret_int2 H2.out.1.symm H2.out.2.symm, rfl⟩
set_option maxHeartbeats 400000 in
theorem sStayFor_c (l f r : Int) (w : World) :
    Calls Try.prog 11 #[.int .i64 l, .int .i64 f, .int .i64 r] w fun e w' => e = .returned (.tuple #[.int .i64 (bothV (stayAllB l f r) (stayV l f r)), .int .i64 (bothE (stayAllB l f r) (stayE l f r))]) ∧ w = w' := by
  have c1 : codeR false = 2 := rfl
  have c2 : codeR true = 0 := rfl
  have h3 : stayB 3000 f r = toothB f r := by simp [stayB, inB]
  cases h : stayAllB l f r
  · have H := Lib.hid h; clear h
    cases h1 : linksB l <;> cases h2 : toothB f r
    case true.true => exact absurd (show stayAllB l f r = true by rw [stayAllB, h1, h2]; rfl) (by rw [show stayAllB l f r = false from H]; simp)
    all_goals
      go_enter Try.func11, Try.ntmps11
      go_wp2_with (first | (go_at_call 17; refine (l10Code_c _ _ _ _).mono ?_; rintro e w' ⟨rfl, rfl⟩) | (go_at_call 15; refine (l10Links_c _ _).mono ?_; rintro e w' ⟨rfl, rfl⟩))
      go_ret2
      exact ⟨rfl, rfl⟩
  · have hl := stayAllB_t h
    have h1 : linksB l = true := by simp [stayAllB] at h; exact h.1
    have h2 : toothB f r = true := by simp [stayAllB] at h; exact h.2
    clear h
    have hbd : ∀ k : Nat, k < 3001 → StayOk (6000 - (k : Int)) f r := fun k hk => ⟨by omega, hl.2.1, hl.2.2⟩
    obtain ⟨hl1, hl2, hl3⟩ := hl
    have HB := Lib.hid hbd; clear hbd
    go_enter Try.func11, Try.ntmps11
    go_wp2_with (first | (go_at_call 17; refine (l10Code_c _ _ _ _).mono ?_; rintro e w' ⟨rfl, rfl⟩) | (go_at_call 15; refine (l10Links_c _ _).mono ?_; rintro e w' ⟨rfl, rfl⟩))
    go_loop [9] (fun s => ∃ k : Nat, k ≤ 3001 ∧ s = .int .i64 (6000 - (k : Int)) ∧ Hid (stayS l f r = srch (stayP l f r) k (3001 - k))) (fun s => (intOf s).toNat)
    case atStart => exact ⟨0, by omega, rfl, rfl⟩
    case round =>
      obtain ⟨k, hk, rfl, H⟩ := hrel
      by_cases hlt : k < 3001
      · have hst := HB.out k hlt
        have hnb := needF_bd _ _ _ hst
        have hst := Lib.hid hst
        by_cases hp : needF (6000 - (k : Int)) f r ≤ 1000 * l
        · have H2 := Lib.hid (stayV_hit hlt H.out hp)
          go_wp2_with (go_at_call 18; refine (l10Need_c _ _ _ _ hst).mono ?_; rintro e w' ⟨rfl, rfl⟩)
          go_ret2
          exact ⟨ret_int2 H2.out.1.symm H2.out.2.symm, rfl⟩
        · have H2 := Lib.hid (stayV_miss hlt H.out hp)
          go_wp2_with (go_at_call 18; refine (l10Need_c _ _ _ _ hst).mono ?_; rintro e w' ⟨rfl, rfl⟩)
          go_round
          case rel => exact ⟨k + 1, by omega, congrArg (Value.int .i64) (by omega), H2⟩
          case measure => simp [intOf]; omega
      · obtain rfl : k = 3001 := by omega
        have H2 := Lib.hid (stayV_end H.out)
        go_wp2
        go_ret2
        exact ⟨ret_int2 H2.out.1.symm H2.out.2.symm, rfl⟩

/-! ### CutLinks -/
def cutV (l m : Int) : Int := if linksB l && linksB m then (if l < m then 0 else l - m) else 0
def cutE (l m : Int) : Int := if linksB l && linksB m then (if l < m then 5 else 0) else 2
theorem iCutLinks_c (l m : Int) (w : World) :
    Calls Try.prog 8 #[.int .i64 l, .int .i64 m] w fun e w' => e = .returned (.tuple #[.int .i64 (cutV l m), .int .i64 (cutE l m)]) ∧ w = w' := by
  cases h1 : linksB l
  · have H := Lib.hid (show cutV l m = 0 ∧ cutE l m = 2 by simp [cutV, cutE, h1])
    go_enter Try.func8, Try.ntmps8
    go_wp2_with (go_at_call 16; refine (areLinks_c _ _).mono ?_; rintro e w' ⟨rfl, rfl⟩)
    go_ret2
    exact ⟨ret_int2 H.out.1.symm H.out.2.symm, rfl⟩
  · cases h2 : linksB m
    · have H := Lib.hid (show cutV l m = 0 ∧ cutE l m = 2 by simp [cutV, cutE, h2])
      go_enter Try.func8, Try.ntmps8
      go_wp2_with (go_at_call 16; refine (areLinks_c _ _).mono ?_; rintro e w' ⟨rfl, rfl⟩)
      go_ret2
      exact ⟨ret_int2 H.out.1.symm H.out.2.symm, rfl⟩
    · have b1 : 40 ≤ l ∧ l ≤ 200 ∧ l % 2 = 0 := of_decide_eq_true h1
      have b2 : 40 ≤ m ∧ m ≤ 200 ∧ m % 2 = 0 := of_decide_eq_true h2
      have b1 : 40 ≤ l ∧ l ≤ 200 := ⟨b1.1, b1.2.1⟩
      have b2 : 40 ≤ m ∧ m ≤ 200 := ⟨b2.1, b2.2.1⟩
      by_cases h3 : l < m
      · have H := Lib.hid (show cutV l m = 0 ∧ cutE l m = 5 by simp [cutV, cutE, h1, h2, h3])
        go_enter Try.func8, Try.ntmps8
        go_wp2_with (go_at_call 16; refine (areLinks_c _ _).mono ?_; rintro e w' ⟨rfl, rfl⟩)
        go_ret2
        exact ⟨ret_int2 H.out.1.symm H.out.2.symm, rfl⟩
      · have H := Lib.hid (show cutV l m = l - m ∧ cutE l m = 0 by simp [cutV, cutE, h1, h2, h3])
        go_enter Try.func8, Try.ntmps8
        go_wp2_with (go_at_call 16; refine (areLinks_c _ _).mono ?_; rintro e w' ⟨rfl, rfl⟩)
        go_ret2
        exact ⟨ret_int2 H.out.1.symm H.out.2.symm, rfl⟩
theorem sCutLinks_c (l m : Int) (w : World) :
    Calls Try.prog 7 #[.int .i64 l, .int .i64 m] w fun e w' => e = .returned (.tuple #[.int .i64 (cutV l m), .int .i64 (cutE l m)]) ∧ w = w' := by
  cases h1 : linksB l
  · have H := Lib.hid (show cutV l m = 0 ∧ cutE l m = 2 by simp [cutV, cutE, h1])
    go_enter Try.func7, Try.ntmps7
    go_wp2_with (go_at_call 15; refine (l10Links_c _ _).mono ?_; rintro e w' ⟨rfl, rfl⟩)
    go_ret2
    exact ⟨ret_int2 H.out.1.symm H.out.2.symm, rfl⟩
  · cases h2 : linksB m
    · have H := Lib.hid (show cutV l m = 0 ∧ cutE l m = 2 by simp [cutV, cutE, h2])
      go_enter Try.func7, Try.ntmps7
      go_wp2_with (go_at_call 15; refine (l10Links_c _ _).mono ?_; rintro e w' ⟨rfl, rfl⟩)
      go_ret2
      exact ⟨ret_int2 H.out.1.symm H.out.2.symm, rfl⟩
    · have b1 : 40 ≤ l ∧ l ≤ 200 ∧ l % 2 = 0 := of_decide_eq_true h1
      have b2 : 40 ≤ m ∧ m ≤ 200 ∧ m % 2 = 0 := of_decide_eq_true h2
      have b1 : 40 ≤ l ∧ l ≤ 200 := ⟨b1.1, b1.2.1⟩
      have b2 : 40 ≤ m ∧ m ≤ 200 := ⟨b2.1, b2.2.1⟩
      by_cases h3 : l < m
      · have H := Lib.hid (show cutV l m = 0 ∧ cutE l m = 5 by simp [cutV, cutE, h1, h2, h3])
        go_enter Try.func7, Try.ntmps7
        go_wp2_with (go_at_call 15; refine (l10Links_c _ _).mono ?_; rintro e w' ⟨rfl, rfl⟩)
        go_ret2
        exact ⟨ret_int2 H.out.1.symm H.out.2.symm, rfl⟩
      · have H := Lib.hid (show cutV l m = l - m ∧ cutE l m = 0 by simp [cutV, cutE, h1, h2, h3])
        go_enter Try.func7, Try.ntmps7
        go_wp2_with (go_at_call 15; refine (l10Links_c _ _).mono ?_; rintro e w' ⟨rfl, rfl⟩)
        go_ret2
        exact ⟨ret_int2 H.out.1.symm H.out.2.symm, rfl⟩
end Go.Proofs.Ytelakemggcgnpaa
