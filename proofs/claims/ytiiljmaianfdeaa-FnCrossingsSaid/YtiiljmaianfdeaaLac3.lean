/- The contracts of chapter 6: shifts, rotations, moves. -/
import Derived.Test.YtiiljmaianfdeaaLac2
namespace Go.Proofs.Ytiiljmaianfdeaa
open Go.RowKit
set_option linter.unusedVariables false
set_option linter.unusedSimpArgs false

theorem getD_of {xs : List Int} {k : Nat} {x : Int} (h : xs[k]? = some x) : xs.getD k 0 = x := by rw [List.getD_eq_getElem?_getD, h]; rfl
/-- What a lacing gives: its size as a length, its numbers. -/
theorem lac_bd {n : Int} {xs : List Int} (h : lacB n xs = true) : n = (xs.length : Int) ∧ (6 ≤ (xs.length : Int) ∧ (xs.length : Int) ≤ 24) ∧ ∀ x, x ∈ xs → 0 ≤ x ∧ x ≤ (xs.length : Int) - 1 := by
  obtain ⟨h1, h2, h3, -⟩ := lacB_t h
  have := flB_bd h1
  exact ⟨h2.symm, by omega, by rw [h2]; exact h3⟩

/-! ### Shifts -/
def shF (xs : List Int) (k : Nat) : Int := (xs.getD k 0 - k + (xs.length : Int) / 2) % xs.length - (xs.length : Int) / 2
def shTo (xs : List Int) (k : Nat) : List Int := upTo (fun i => [shF xs i]) k
def shiftsL (n : Int) (xs : List Int) : List Int := if lacB n xs then shTo xs xs.length else []
def lacE (n : Int) (xs : List Int) : Int := if lacB n xs then 0 else 1
theorem shF_bd (xs : List Int) (k : Nat) (h : 1 ≤ (xs.length : Int)) : -(xs.length : Int) ≤ shF xs k ∧ shF xs k ≤ xs.length := by
  unfold shF
  have h1 := Int.emod_nonneg (xs.getD k 0 - k + (xs.length : Int) / 2) (show (xs.length : Int) ≠ 0 by omega)
  have h2 := Int.emod_lt_of_pos (xs.getD k 0 - k + (xs.length : Int) / 2) (show (0 : Int) < xs.length by omega)
  omega
set_option maxHeartbeats 800000 in
theorem shifts_c (a : Option Addr) (c : Nat) (xs : List Int) (w : World) (h : IntsAt w a xs) (hn : 6 ≤ (xs.length : Int) ∧ (xs.length : Int) ≤ 24) (hx : ∀ x, x ∈ xs → 0 ≤ x ∧ x ≤ (xs.length : Int) - 1) :
    Calls Try.prog 83 #[.int .i64 (xs.length : Int), .slice a xs.length c] w (NewI w (shTo xs xs.length)) := by
  have H := Lib.hid h; clear h
  have HX := Lib.hid hx; clear hx
  go_enter Try.func83, Try.ntmps83
  go_wp2
  go_loopw [5, 10] (fun v i wr => ∃ k : Nat, k ≤ xs.length ∧ i = .int .i64 k ∧ Hid (OwnI wr w.heap.size v (shTo xs k)) ∧ Hid (Upd [] w wr)) (fun _ i _ => xs.length - (intOf i).toNat)
  case atStart => exact ⟨0, by omega, rfl, OwnI.nil _ _, Upd.refl w⟩
  case round =>
    obtain ⟨k, hk, rfl, HO, HU⟩ := hrel
    by_cases hlt : k < xs.length
    · obtain ⟨b, off, x, rfl, hc, hx⟩ := (H.out.kept0 HU.out).get hlt
      have hx1 := HX.out x (mem_of_get hx.out)
      have HL : (shTo xs k).length ≤ 24 := by unfold shTo; rw [upTo_one]; omega
      have HN : Hid (shTo xs (k + 1) = shTo xs k ++ [(x - k + (xs.length : Int) / 2) % xs.length - (xs.length : Int) / 2]) := by
        show shTo _ _ = _; rw [shTo, upTo]; simp only [shF, getD_of hx.out]; rfl
      have h1 := Int.emod_nonneg (x - k + (xs.length : Int) / 2) (show (xs.length : Int) ≠ 0 by omega)
      have h2 := Int.emod_lt_of_pos (x - k + (xs.length : Int) / 2) (show (0 : Int) < xs.length by omega)
      go_wp2_with (first | (go_at_call 95; refine (floorMod_c _ _ _ (by omega) (by omega)).mono ?_; rintro e w' ⟨rfl, rfl⟩) | (at_builtin; refine wpList_appI rfl _ _ rfl _ _ _ rfl rfl HO.out HU.out (by omega) ?_; intro v' w1 h1 h2; have H1 := Lib.hid h1; have H2 := Lib.hid h2; clear h1 h2))
      go_roundw
      case rel => exact ⟨k + 1, by omega, by go_num, by rw [HN.out]; exact H1, H2⟩
      case measure => simp [intOf]; omega
    · obtain rfl : k = xs.length := by omega
      go_wp2
      go_ret
      exact ⟨_, rfl, HO.out, HU.out⟩
theorem l06Shift_c (a : Option Addr) (c : Nat) (xs : List Int) (k : Nat) (w : World) (h : IntsAt w a xs) (hk : k < xs.length) (hn : 6 ≤ (xs.length : Int) ∧ (xs.length : Int) ≤ 24) (hx : ∀ x, x ∈ xs → 0 ≤ x ∧ x ≤ (xs.length : Int) - 1) :
    Calls Try.prog 84 #[.int .i64 (xs.length : Int), .slice a xs.length c, .int .i64 (k : Int)] w fun e w' => e = .returned (.int .i64 (shF xs k)) ∧ w = w' := by
  obtain ⟨b, off, x, rfl, hc, hxk⟩ := h.get hk
  have hx1 := hx x (mem_of_get hxk.out)
  have HN : Hid (shF xs k = (x - k + (xs.length : Int) / 2) % xs.length - (xs.length : Int) / 2) := by show shF _ _ = _; rw [shF, getD_of hxk.out]
  have h1 := Int.emod_nonneg (x - k + (xs.length : Int) / 2) (show (xs.length : Int) ≠ 0 by omega)
  have h2 := Int.emod_lt_of_pos (x - k + (xs.length : Int) / 2) (show (0 : Int) < xs.length by omega)
  clear h hx
  go_enter Try.func84, Try.ntmps84
  go_wp2_with (go_at_call 86; refine (l01Mod_c _ _ _ (by omega) (by omega)).mono ?_; rintro e w' ⟨rfl, rfl⟩)
  go_ret
  exact ⟨ret_int HN.out.symm, rfl⟩

/-! ### Rotations -/
def rotF (xs : List Int) (b : Int) (k : Nat) : Int := (xs.getD k 0 + b) % xs.length
def rotTo (xs : List Int) (b : Int) (k : Nat) : List Int := upTo (fun i => [rotF xs b i]) k
def rotL (n : Int) (xs : List Int) (b : Int) : List Int := if lacB n xs && inB b 0 (n - 1) then rotTo xs b xs.length else []
set_option maxHeartbeats 800000 in
theorem iRotateLacing_c (n : Int) (a : Option Addr) (c : Nat) (xs : List Int) (b : Int) (w : World) (h : IntsAt w a xs) (hl : xs.length ≤ 1048576) :
    Calls Try.prog 22 #[.int .i64 n, .slice a xs.length c, .int .i64 b] w (NewIC w (rotL n xs b) (codeL n xs b)) := by
  have H := Lib.hid h; clear h
  cases h1 : lacB n xs
  · have HE : Hid (rotL n xs b = [] ∧ codeL n xs b = 1) := by constructor <;> simp [rotL, codeL, h1]
    go_enter Try.func22, Try.ntmps22
    go_wp2_with (first | (go_at_call 20; refine (iIsLacing_c _ _ _ _ _ H.out hl).mono ?_; rintro e w1 ⟨rfl, hU⟩; have HU0 := Lib.hid hU; clear hU) | (go_at_call 51; refine (within_c _ _ _ _).mono ?_; rintro e w' ⟨rfl, rfl⟩))
    go_ret2
    rw [HE.out.1, HE.out.2]
    exact ⟨_, rfl, OwnI.nil _ _, HU0.out⟩
  · obtain ⟨hn, hb, hx⟩ := lac_bd h1
    have HX := Lib.hid hx
    clear hx
    subst hn
    cases h2 : inB b 0 ((xs.length : Int) - 1)
    · have HE : Hid (rotL xs.length xs b = [] ∧ codeL xs.length xs b = 2) := by constructor <;> simp [rotL, codeL, h1, h2]
      go_enter Try.func22, Try.ntmps22
      go_wp2_with (first | (go_at_call 20; refine (iIsLacing_c _ _ _ _ _ H.out hl).mono ?_; rintro e w1 ⟨rfl, hU⟩; have HU0 := Lib.hid hU; clear hU) | (go_at_call 51; refine (within_c _ _ _ _).mono ?_; rintro e w' ⟨rfl, rfl⟩))
      go_ret2
      rw [HE.out.1, HE.out.2]
      exact ⟨_, rfl, OwnI.nil _ _, HU0.out⟩
    · have HE : Hid (rotL xs.length xs b = rotTo xs b xs.length ∧ codeL xs.length xs b = 0) := by constructor <;> simp [rotL, codeL, h1, h2]
      have hb2 := inB_t h2
      go_enter Try.func22, Try.ntmps22
      go_wp2_with (first | (go_at_call 20; refine (iIsLacing_c _ _ _ _ _ H.out hl).mono ?_; rintro e w1 ⟨rfl, hU⟩; have HU0 := Lib.hid hU; clear hU) | (go_at_call 51; refine (within_c _ _ _ _).mono ?_; rintro e w' ⟨rfl, rfl⟩))
      go_loopw [8, 22] (fun v i wr => ∃ k : Nat, k ≤ xs.length ∧ i = .int .i64 k ∧ Hid (OwnI wr w.heap.size v (rotTo xs b k)) ∧ Hid (Upd [] w wr)) (fun _ i _ => xs.length - (intOf i).toNat)
      case atStart => exact ⟨0, by omega, rfl, OwnI.nil _ _, HU0.out⟩
      case round =>
        clear HU0
        obtain ⟨k, hk, rfl, HO, HU⟩ := hrel
        by_cases hlt : k < xs.length
        · obtain ⟨bb, off, x, rfl, hc, hx⟩ := (H.out.kept0 HU.out).get hlt
          have hx1 := HX.out x (mem_of_get hx.out)
          have HL : (rotTo xs b k).length ≤ 24 := by unfold rotTo; rw [upTo_one]; omega
          have HN : Hid (rotTo xs b (k + 1) = rotTo xs b k ++ [(x + b) % xs.length]) := by
            show rotTo _ _ _ = _; rw [rotTo, upTo]; simp only [rotF, getD_of hx.out]; rfl
          go_wp2_with (first | (at_builtin; refine wpList_appI rfl _ _ rfl _ _ _ rfl rfl HO.out HU.out (by omega) ?_; intro v' w1 h1 h2; have H1 := Lib.hid h1; have H2 := Lib.hid h2; clear h1 h2))
          go_roundw
          case rel => exact ⟨k + 1, by omega, by go_num, by rw [HN.out]; exact H1, H2⟩
          case measure => simp [intOf]; omega
        · obtain rfl : k = xs.length := by omega
          go_wp2
          go_ret2
          rw [HE.out.1, HE.out.2]
          exact ⟨_, rfl, HO.out, HU.out⟩
end Go.Proofs.Ytiiljmaianfdeaa
