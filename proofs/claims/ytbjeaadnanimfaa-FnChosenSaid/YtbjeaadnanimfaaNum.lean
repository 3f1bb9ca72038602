/- The contracts of the small functions over whole numbers, each with the plain Lean function that it computes. -/
import Derived.Test.YtbjeaadnanimfaaChecked
import Derived.WalkKit
import Derived.ProofKit
import Derived.WalkLawsBesides
import Derived.WalkSpells
import Derived.Lib.Hide
import Derived.Deep.QuietTactic
import Derived.BigQuiet
import Derived.StillTailTactics
namespace Go.Proofs.Ytbjeaadnanimfaa
open Go.RowKit
set_option linter.unusedVariables false
set_option linter.unusedSimpArgs false

/-! ### Plain -/
def inB (n a b : Int) : Bool := decide (a ≤ n ∧ n ≤ b)
theorem inB_t {n a b : Int} (h : inB n a b = true) : a ≤ n ∧ n ≤ b := of_decide_eq_true h
theorem inB_f {n a b : Int} (h : inB n a b = false) : ¬ (a ≤ n ∧ n ≤ b) := of_decide_eq_false h
theorem inB_mk {n a b : Int} (h : a ≤ n ∧ n ≤ b) : inB n a b = true := decide_eq_true h
theorem inB_mkf {n a b : Int} (h : ¬ (a ≤ n ∧ n ≤ b)) : inB n a b = false := decide_eq_false h
theorem ret_bool {a b : Bool} (h : a = b) : Ending.returned (.bool a) = .returned (.bool b) := by rw [h]
theorem ret_int {k : IntKind} {a b : Int} (h : a = b) : Ending.returned (.int k a) = .returned (.int k b) := by rw [h]
theorem ret_int2 {a b c d : Int} (h : a = c) (h2 : b = d) : Ending.returned (.tuple #[.int .i64 a, .int .i64 b]) = .returned (.tuple #[.int .i64 c, .int .i64 d]) := by rw [h, h2]
theorem ret_int3 {a b c d e f : Int} (h : a = d) (h2 : b = e) (h3 : c = f) : Ending.returned (.tuple #[.int .i64 a, .int .i64 b, .int .i64 c]) = .returned (.tuple #[.int .i64 d, .int .i64 e, .int .i64 f]) := by rw [h, h2, h3]
def iabs (n : Int) : Int := if n < 0 then -n else n
theorem tdiv_floor (a b : Int) (hb : 0 < b) : a.tdiv b - (if a.tmod b < 0 then 1 else 0) = a / b := by
  rw [Int.tdiv_eq_ediv, Int.tmod_eq_emod]
  have h1 := Int.emod_nonneg a (show b ≠ 0 by omega)
  have h2 := Int.emod_lt_of_pos a hb
  have h3 : b.sign = 1 := Int.sign_eq_one_of_pos hb
  have h4 : (b.natAbs : Int) = b := by omega
  have h5 : b ∣ a ↔ a % b = 0 := Int.dvd_iff_emod_eq_zero
  by_cases c : 0 ≤ a ∨ b ∣ a
  · rw [if_pos c, if_pos c, if_neg (by omega)]; omega
  · rw [if_neg c, if_neg c, h3]
    have : a % b ≠ 0 := fun h => c (.inr (h5.2 h))
    rw [if_pos (by omega)]; omega
theorem tmod_floor (a b : Int) (hb : 0 < b) : (if a.tmod b < 0 then a.tmod b + b else a.tmod b) = a % b := by
  rw [Int.tmod_eq_emod]
  have h1 := Int.emod_nonneg a (show b ≠ 0 by omega)
  have h2 := Int.emod_lt_of_pos a hb
  have h4 : (b.natAbs : Int) = b := by omega
  have h5 : b ∣ a ↔ a % b = 0 := Int.dvd_iff_emod_eq_zero
  by_cases c : 0 ≤ a ∨ b ∣ a
  · rw [if_pos c, if_neg (by omega)]; omega
  · rw [if_neg c]
    have : a % b ≠ 0 := fun h => c (.inr (h5.2 h))
    rw [h4, if_pos (by omega)]; omega
theorem tmod_bd (a b : Int) (hb : 0 < b) : -b < a.tmod b ∧ a.tmod b < b := by
  rw [Int.tmod_eq_emod]
  have h1 := Int.emod_nonneg a (show b ≠ 0 by omega)
  have h2 := Int.emod_lt_of_pos a hb
  have h4 : (b.natAbs : Int) = b := by omega
  have h5 : b ∣ a ↔ a % b = 0 := Int.dvd_iff_emod_eq_zero
  by_cases c : 0 ≤ a ∨ b ∣ a
  · rw [if_pos c]; omega
  · rw [if_neg c]
    have : a % b ≠ 0 := fun h => c (.inr (h5.2 h))
    omega
theorem tdiv_bd (a b M : Int) (hb : 0 < b) (h : -M ≤ a ∧ a ≤ M) : -M ≤ a.tdiv b ∧ a.tdiv b ≤ M := by
  rw [show a.tdiv b = if 0 ≤ a then a / b else -(-a / b) from ?_]
  · split
    · rename_i h0
      have := Int.ediv_nonneg h0 (show 0 ≤ b by omega); have := Int.ediv_le_self b h0; omega
    · have := Int.ediv_nonneg (show 0 ≤ -a by omega) (show 0 ≤ b by omega); have := Int.ediv_le_self b (show 0 ≤ -a by omega); omega
  · split
    · rename_i h0; exact Int.tdiv_eq_ediv_of_nonneg h0
    · rw [show a = -(-a) by omega, Int.neg_tdiv, Int.tdiv_eq_ediv_of_nonneg (by omega)]; simp
theorem ediv_bd (a b M : Int) (hb : 1 ≤ b) (h : -M ≤ a ∧ a ≤ M) : -M ≤ a / b ∧ a / b ≤ M := by
  have hM : 0 ≤ M := by omega
  have h1 : M * 1 ≤ M * b := Int.mul_le_mul_of_nonneg_left hb hM
  constructor
  · refine Int.le_ediv_of_mul_le (by omega) ?_
    rw [Int.neg_mul]; omega
  · by_cases h0 : 0 ≤ a
    · have := Int.ediv_le_self b h0; omega
    · have := Int.ediv_neg_of_neg_of_pos (show a < 0 by omega) (show 0 < b by omega); omega
theorem ceil_eq (a b : Int) (hb : 0 < b) : -(-a / b) = (a + b - 1) / b := by
  have h1 := Int.mul_ediv_add_emod (-a) b
  have h2 := Int.emod_nonneg (-a) (show b ≠ 0 by omega)
  have h3 := Int.emod_lt_of_pos (-a) hb
  have h4 : a + b - 1 = (b - 1 - (-a) % b) + b * (-(-a / b)) := by rw [Int.mul_neg]; omega
  have h5 : (b - 1 - (-a) % b + b * (-(-a / b))) / b = (b - 1 - (-a) % b) / b + (-(-a / b)) := Int.add_mul_ediv_left _ _ (by omega)
  have h6 : (b - 1 - (-a) % b) / b = 0 := Int.ediv_eq_zero_of_lt (by omega) (by omega)
  rw [h4, h5, h6]; omega

/-- A contract that leaves the world alone, inside a region that draws. -/
theorem quiet0 {P : Program} {f : FuncId} {args : Array Value} {w : World} {n : Nat} {v : Value}
    (h : Calls P f args (w.drewN n) fun e w' => e = .returned v ∧ w.drewN n = w') : Calls P f args (w.drewN n) fun e w'' => e = .returned v ∧ ∃ m, w'' = w.drewN m :=
  h.mono fun _ _ ⟨he, hm⟩ => ⟨he, n, hm.symm⟩
/-- The world has at most drawn. -/
def Dr (w w' : World) : Prop := ∃ n, w' = w.drewN n
theorem Dr.refl (w : World) : Dr w w := ⟨0, rfl⟩
theorem Dr.drewN {w w' : World} (h : Dr w w') (n : Nat) : Dr w (w'.drewN n) := by
  obtain ⟨m, rfl⟩ := h; exact ⟨m + n, by rw [World.drewN_drewN]⟩
theorem quietD {P : Program} {f : FuncId} {args : Array Value} {w : World} {n : Nat} {v : Value}
    (h : Calls P f args (w.drewN n) fun e w' => e = .returned v ∧ Dr (w.drewN n) w') : Calls P f args (w.drewN n) fun e w'' => e = .returned v ∧ ∃ m, w'' = w.drewN m :=
  h.mono fun _ _ ⟨he, hm⟩ => ⟨he, by obtain ⟨m, rfl⟩ := hm; exact ⟨n + m, by rw [World.drewN_drewN]⟩⟩
/-- The same inside a region whose last operation writes. -/
theorem stillC {P : Program} {f : FuncId} {args : Array Value} {w : World} {v : Value} (h : Calls P f args w fun e w' => e = .returned v ∧ w = w') : Calls P f args w fun e w'' => e = .returned v ∧ w'' = w :=
  h.mono fun _ _ ⟨he, hm⟩ => ⟨he, hm.symm⟩
/-- The place of a number on a ring of n. -/
def pos (i n : Int) : Nat := (i % n).toNat
theorem pos_lt (i : Int) {n : Nat} (hn : 0 < n) : pos i n < n := by
  unfold pos
  have h1 := Int.emod_nonneg i (show (n : Int) ≠ 0 by omega)
  have h2 := Int.emod_lt_of_pos i (show (0 : Int) < n by omega)
  omega
theorem pos_cast (i n : Int) (hn : 0 < n) : i % n = ((pos i n : Nat) : Int) := by
  unfold pos; have := Int.emod_nonneg i (show n ≠ 0 by omega); omega
/-! ### Contracts -/
theorem l01In_c (n a b : Int) (w : World) :
    Calls Try.prog 41 #[.int .i64 n, .int .i64 a, .int .i64 b] w fun e w' => e = .returned (.bool (inB n a b)) ∧ w = w' := by
  by_cases h1 : a ≤ n
  · by_cases h2 : n ≤ b
    · go_enter Try.func41, Try.ntmps41
      go_wp2
      go_ret
      exact ⟨ret_bool (inB_mk (by omega)).symm, rfl⟩
    · go_enter Try.func41, Try.ntmps41
      go_wp2
      go_ret
      exact ⟨ret_bool (inB_mkf (by omega)).symm, rfl⟩
  · go_enter Try.func41, Try.ntmps41
    go_wp2
    go_ret
    exact ⟨ret_bool (inB_mkf (by omega)).symm, rfl⟩
theorem within_c (n a b : Int) (w : World) :
    Calls Try.prog 38 #[.int .i64 n, .int .i64 a, .int .i64 b] w fun e w' => e = .returned (.bool (inB n a b)) ∧ w = w' := by
  by_cases h1 : a ≤ n
  · by_cases h2 : n ≤ b
    · go_enter Try.func38, Try.ntmps38
      go_wp2
      go_ret
      exact ⟨ret_bool (inB_mk (by omega)).symm, rfl⟩
    · go_enter Try.func38, Try.ntmps38
      go_wp2
      go_ret
      exact ⟨ret_bool (inB_mkf (by omega)).symm, rfl⟩
  · go_enter Try.func38, Try.ntmps38
    go_wp2
    go_ret
    exact ⟨ret_bool (inB_mkf (by omega)).symm, rfl⟩
theorem l01Floor_c (a b : Int) (w : World) (ha : -9223372036854775807 ≤ a ∧ a ≤ 9223372036854775807) (hb : 1 ≤ b ∧ b ≤ 9223372036854775807) :
    Calls Try.prog 74 #[.int .i64 a, .int .i64 b] w fun e w' => e = .returned (.int .i64 (a / b)) ∧ w = w' := by
  have h1 := tdiv_floor a b (by omega)
  have h2 := tdiv_bd a b _ (by omega) ha
  have h3 := tmod_bd a b (by omega)
  have h5 := ediv_bd a b _ hb.1 ha
  by_cases h6 : a.tmod b < 0
  · have h7 : a / b = a.tdiv b - 1 := by rw [if_pos h6] at h1; omega
    have h8 := Lib.hid h7
    clear h1 h7
    have h9 : -9223372036854775807 ≤ a.tdiv b - 1 := by have := h8.out; omega
    go_enter Try.func74, Try.ntmps74
    go_wp2
    go_ret
    exact ⟨ret_int h8.out.symm, rfl⟩
  · have h7 : a / b = a.tdiv b := by rw [if_neg h6] at h1; omega
    have h8 := Lib.hid h7
    clear h1 h7
    go_enter Try.func74, Try.ntmps74
    go_wp2
    go_ret
    exact ⟨ret_int h8.out.symm, rfl⟩
theorem floorDiv_c (a b : Int) (w : World) (ha : -9223372036854775807 ≤ a ∧ a ≤ 9223372036854775807) (hb : 1 ≤ b ∧ b ≤ 9223372036854775807) :
    Calls Try.prog 73 #[.int .i64 a, .int .i64 b] w fun e w' => e = .returned (.int .i64 (a / b)) ∧ w = w' := by
  have h1 := tdiv_floor a b (by omega)
  have h2 := tdiv_bd a b _ (by omega) ha
  have h3 := tmod_bd a b (by omega)
  have h5 := ediv_bd a b _ hb.1 ha
  by_cases h6 : a.tmod b < 0
  · have h7 : a / b = a.tdiv b - 1 := by rw [if_pos h6] at h1; omega
    have h8 := Lib.hid h7
    clear h1 h7
    have h9 : -9223372036854775807 ≤ a.tdiv b - 1 := by have := h8.out; omega
    go_enter Try.func73, Try.ntmps73
    go_wp2
    go_ret
    exact ⟨ret_int h8.out.symm, rfl⟩
  · have h7 : a / b = a.tdiv b := by rw [if_neg h6] at h1; omega
    have h8 := Lib.hid h7
    clear h1 h7
    go_enter Try.func73, Try.ntmps73
    go_wp2
    go_ret
    exact ⟨ret_int h8.out.symm, rfl⟩
theorem floorMod_c (a b : Int) (w : World) (ha : -9223372036854775807 ≤ a ∧ a ≤ 9223372036854775807) (hb : 1 ≤ b ∧ b ≤ 9223372036854775807) :
    Calls Try.prog 81 #[.int .i64 a, .int .i64 b] w fun e w' => e = .returned (.int .i64 (a % b)) ∧ w = w' := by
  have h1 := tmod_floor a b (by omega)
  have h3 := tmod_bd a b (by omega)
  by_cases h6 : a.tmod b < 0
  · have h7 : a.tmod b + b = a % b := by rw [if_pos h6] at h1; exact h1
    have h8 := Lib.hid h7
    clear h1 h7
    go_enter Try.func81, Try.ntmps81
    go_wp2
    go_ret
    exact ⟨ret_int h8.out, rfl⟩
  · have h7 : a.tmod b = a % b := by rw [if_neg h6] at h1; exact h1
    have h8 := Lib.hid h7
    clear h1 h7
    go_enter Try.func81, Try.ntmps81
    go_wp2
    go_ret
    exact ⟨ret_int h8.out, rfl⟩
theorem l01Mod_c (a b : Int) (w : World) (ha : -9223372036854775807 ≤ a ∧ a ≤ 9223372036854775807) (hb : 1 ≤ b ∧ b ≤ 4611686018427387903) :
    Calls Try.prog 83 #[.int .i64 a, .int .i64 b] w fun e w' => e = .returned (.int .i64 (a % b)) ∧ w = w' := by
  have h1 := tmod_floor a b (by omega)
  have h3 := tmod_bd a b (by omega)
  have h4 : (a.tmod b + b) % b = a % b := by
    rw [← h1]
    split
    · rename_i h6; rw [Int.emod_eq_of_lt (by omega) (by omega)]
    · rename_i h6; rw [Int.add_emod_right, Int.emod_eq_of_lt (by omega) (by omega)]
  have h8 := Lib.hid h4
  clear h1 h4
  go_enter Try.func83, Try.ntmps83
  go_wp2
  go_ret
  exact ⟨ret_int h8.out, rfl⟩
theorem floorMod_p (a b : Int) (p : Nat) (w : World) (ha : -9223372036854775807 ≤ a ∧ a ≤ 9223372036854775807) (hb : 1 ≤ b ∧ b ≤ 9223372036854775807) (hp : pos a b = p) :
    Calls Try.prog 81 #[.int .i64 a, .int .i64 b] w fun e w' => e = .returned (.int .i64 (p : Int)) ∧ w = w' :=
  (floorMod_c a b w ha hb).mono fun e w' h => ⟨by rw [h.1, pos_cast a b (by omega), hp], h.2⟩
theorem l01Mod_p (a b : Int) (p : Nat) (w : World) (ha : -9223372036854775807 ≤ a ∧ a ≤ 9223372036854775807) (hb : 1 ≤ b ∧ b ≤ 4611686018427387903) (hp : pos a b = p) :
    Calls Try.prog 83 #[.int .i64 a, .int .i64 b] w fun e w' => e = .returned (.int .i64 (p : Int)) ∧ w = w' :=
  (l01Mod_c a b w ha hb).mono fun e w' h => ⟨by rw [h.1, pos_cast a b (by omega), hp], h.2⟩
def nearF (a b : Int) : Int := (2 * a + b) / (2 * b)
theorem nearest_c (a b : Int) (w : World) (ha : -2000000000000000000 ≤ a ∧ a ≤ 2000000000000000000) (hb : 1 ≤ b ∧ b ≤ 2000000000000000000) :
    Calls Try.prog 59 #[.int .i64 a, .int .i64 b] w fun e w' => e = .returned (.int .i64 (nearF a b)) ∧ w = w' := by
  go_enter Try.func59, Try.ntmps59
  go_wp2_with (go_at_call 73; refine (floorDiv_c _ _ _ (by omega) (by omega)).mono ?_; rintro e w' ⟨rfl, rfl⟩)
  go_ret
  exact ⟨rfl, rfl⟩
theorem l01Nearest_c (a b : Int) (w : World) (ha : -2000000000000000000 ≤ a ∧ a ≤ 2000000000000000000) (hb : 1 ≤ b ∧ b ≤ 2000000000000000000) :
    Calls Try.prog 61 #[.int .i64 a, .int .i64 b] w fun e w' => e = .returned (.int .i64 (nearF a b)) ∧ w = w' := by
  go_enter Try.func61, Try.ntmps61
  go_wp2_with (go_at_call 74; refine (l01Floor_c _ _ _ (by omega) (by omega)).mono ?_; rintro e w' ⟨rfl, rfl⟩)
  go_ret
  exact ⟨rfl, rfl⟩
theorem iabs_neg {n : Int} (h : n < 0) : iabs n = -n := if_pos h
theorem iabs_pos {n : Int} (h : ¬ n < 0) : iabs n = n := if_neg h
theorem iabs_nonneg (n : Int) : 0 ≤ iabs n := by unfold iabs; split <;> omega
theorem iabs_le {n M : Int} (h : -M ≤ n ∧ n ≤ M) : iabs n ≤ M := by unfold iabs; split <;> omega
theorem abs_c (n : Int) (w : World) (hn : -9223372036854775807 ≤ n ∧ n ≤ 9223372036854775807) :
    Calls Try.prog 55 #[.int .i64 n] w fun e w' => e = .returned (.int .i64 (iabs n)) ∧ w = w' := by
  by_cases h : n < 0
  · have H := Lib.hid (iabs_neg h)
    go_enter Try.func55, Try.ntmps55
    go_wp2
    go_ret
    exact ⟨ret_int H.out.symm, rfl⟩
  · have H := Lib.hid (iabs_pos h)
    go_enter Try.func55, Try.ntmps55
    go_wp2
    go_ret
    exact ⟨ret_int H.out.symm, rfl⟩
theorem l01Abs_c (n : Int) (w : World) (hn : -9223372036854775807 ≤ n ∧ n ≤ 9223372036854775807) :
    Calls Try.prog 56 #[.int .i64 n] w fun e w' => e = .returned (.int .i64 (iabs n)) ∧ w = w' := by
  by_cases h : n < 0
  · have H := Lib.hid (iabs_neg h)
    go_enter Try.func56, Try.ntmps56
    go_wp2
    go_ret
    exact ⟨ret_int H.out.symm, rfl⟩
  · have H := Lib.hid (iabs_pos h)
    by_cases h0 : n = 0
    · subst h0
      go_enter Try.func56, Try.ntmps56
      go_wp2
      go_ret
      exact ⟨ret_int H.out.symm, rfl⟩
    · go_enter Try.func56, Try.ntmps56
      go_wp2
      go_ret
      exact ⟨ret_int H.out.symm, rfl⟩
end Go.Proofs.Ytbjeaadnanimfaa
