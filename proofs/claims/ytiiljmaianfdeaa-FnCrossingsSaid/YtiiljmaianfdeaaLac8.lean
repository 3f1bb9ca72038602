/- The contracts of chapter 6: CrossingsOf, EvenCrossings. -/
import Derived.Test.YtiiljmaianfdeaaLac7
namespace Go.Proofs.Ytiiljmaianfdeaa
open Go.RowKit
set_option linter.unusedVariables false
set_option linter.unusedSimpArgs false

def crV (n : Int) (xs : List Int) (p : Int) : Int := if lacB n xs && inB p 0 (n - 1) then (crF xs p.toNat : Int) else 0
def evP (xs : List Int) (k : Nat) : Prop := ∀ j, j < k → crF xs j = crF xs 0
def evB (xs : List Int) : Bool := (List.range xs.length).all fun j => crF xs j == crF xs 0
theorem evB_t {xs : List Int} (h : evP xs xs.length) : evB xs = true := by
  rw [evB, List.all_eq_true]; intro j hj; rw [List.mem_range] at hj; exact beq_iff_eq.2 (h j hj)
theorem evB_f {xs : List Int} {k : Nat} (hk : k < xs.length) (h : ¬ crF xs k = crF xs 0) : evB xs = false := by
  cases e : evB xs
  · rfl
  · rw [evB, List.all_eq_true] at e; exact absurd (beq_iff_eq.1 (e k (List.mem_range.2 hk))) h
def evV (n : Int) (xs : List Int) : Int := if lacB n xs && evB xs then (crF xs 0 : Int) else 0
def evE (n : Int) (xs : List Int) : Int := if lacB n xs then (if evB xs then 0 else 5) else 1
theorem crF_le (xs : List Int) (p : Nat) : crF xs p ≤ xs.length := by have := crTo_le xs p (xs.length - 1); unfold crF; omega
set_option maxHeartbeats 800000 in
theorem iCrossingsOf_c (n : Int) (a : Option Addr) (c : Nat) (xs : List Int) (p : Int) (w : World) (h : IntsAt w a xs) (hl : xs.length ≤ 1048576) :
    Calls Try.prog 8 #[.int .i64 n, .slice a xs.length c, .int .i64 p] w fun e w' => e = .returned (.tuple #[.int .i64 (crV n xs p), .int .i64 (codeL n xs p)]) ∧ Upd [] w w' := by
  have H := Lib.hid h; clear h
  cases h1 : lacB n xs
  · have HE : Hid (crV n xs p = 0 ∧ codeL n xs p = 1) := by constructor <;> simp [crV, codeL, h1]
    have htriv : True := trivial
    go_enter Try.func8, Try.ntmps8
    go_wp2_with (first | (go_at_call 20; refine (iIsLacing_c _ _ _ _ _ H.out hl).mono ?_; rintro e w1 ⟨rfl, hU⟩; have HU0 := Lib.hid hU; clear hU) | (go_at_call 51; refine (within_c _ _ _ _).mono ?_; rintro e w' ⟨rfl, rfl⟩))
    go_ret2
    exact ⟨ret_int2 HE.out.1.symm HE.out.2.symm, HU0.out⟩
  · obtain ⟨hn, hb, hx⟩ := lac_bd h1
    have HX := Lib.hid hx
    clear hx
    subst hn
    cases h2 : inB p 0 ((xs.length : Int) - 1)
    · have HE : Hid (crV xs.length xs p = 0 ∧ codeL xs.length xs p = 2) := by constructor <;> simp [crV, codeL, h1, h2]
      have htriv : True := trivial
      go_enter Try.func8, Try.ntmps8
      go_wp2_with (first | (go_at_call 20; refine (iIsLacing_c _ _ _ _ _ H.out hl).mono ?_; rintro e w1 ⟨rfl, hU⟩; have HU0 := Lib.hid hU; clear hU) | (go_at_call 51; refine (within_c _ _ _ _).mono ?_; rintro e w' ⟨rfl, rfl⟩))
      go_ret2
      exact ⟨ret_int2 HE.out.1.symm HE.out.2.symm, HU0.out⟩
    · have hp := inB_t h2
      obtain ⟨q, rfl⟩ := Int.eq_ofNat_of_zero_le hp.1
      have HE : Hid (crV xs.length xs (q : Int) = (crF xs q : Int) ∧ codeL xs.length xs (q : Int) = 0) := by constructor <;> simp [crV, codeL, h1, h2]
      have htriv : True := trivial
      go_enter Try.func8, Try.ntmps8
      go_wp2_with (first | (go_at_call 20; refine (iIsLacing_c _ _ _ _ _ H.out hl).mono ?_; rintro e w1 ⟨rfl, hU⟩; have HU0 := Lib.hid hU; clear hU) | (go_at_call 51; refine (within_c _ _ _ _).mono ?_; rintro e w' ⟨rfl, rfl⟩))
      refine (crossings_c _ _ _ _ _ (H.out.kept0 HU0.out) (by omega) hb HX.out).mono ?_
      rintro e w2 ⟨rfl, hU⟩
      have HU1 := Lib.hid (HU0.out.then0 (hU))
      clear hU
      go_wp2_with fail
      go_ret2
      exact ⟨ret_int2 HE.out.1.symm HE.out.2.symm, HU1.out⟩
set_option maxHeartbeats 800000 in
theorem sCrossingsOf_c (n : Int) (a : Option Addr) (c : Nat) (xs : List Int) (p : Int) (w : World) (h : IntsAt w a xs) (hl : xs.length ≤ 1048576) (hcap : xs.length ≤ c) :
    Calls Try.prog 9 #[.int .i64 n, .slice a xs.length c, .int .i64 p] w fun e w' => e = .returned (.tuple #[.int .i64 (crV n xs p), .int .i64 (codeL n xs p)]) ∧ Upd [] w w' := by
  have H := Lib.hid h; clear h
  cases h1 : lacB n xs
  · have HE : Hid (crV n xs p = 0 ∧ codeL n xs p = 1) := by constructor <;> simp [crV, codeL, h1]
    have hcode : codeL n xs p = 1 := by simp [codeL, h1]
    go_enter Try.func9, Try.ntmps9
    go_wp2_with (go_at_call 53; refine (l06Code_c _ _ _ _ _ _ H.out hl hcap).mono ?_; rintro e w1 ⟨rfl, hU⟩; have HU0 := Lib.hid hU; clear hU)
    go_ret2
    exact ⟨ret_int2 HE.out.1.symm HE.out.2.symm, HU0.out⟩
  · obtain ⟨hn, hb, hx⟩ := lac_bd h1
    have HX := Lib.hid hx
    clear hx
    subst hn
    cases h2 : inB p 0 ((xs.length : Int) - 1)
    · have HE : Hid (crV xs.length xs p = 0 ∧ codeL xs.length xs p = 2) := by constructor <;> simp [crV, codeL, h1, h2]
      have hcode : codeL xs.length xs p = 2 := by simp [codeL, h1, h2]
      go_enter Try.func9, Try.ntmps9
      go_wp2_with (go_at_call 53; refine (l06Code_c _ _ _ _ _ _ H.out hl hcap).mono ?_; rintro e w1 ⟨rfl, hU⟩; have HU0 := Lib.hid hU; clear hU)
      go_ret2
      exact ⟨ret_int2 HE.out.1.symm HE.out.2.symm, HU0.out⟩
    · have hp := inB_t h2
      obtain ⟨q, rfl⟩ := Int.eq_ofNat_of_zero_le hp.1
      have HE : Hid (crV xs.length xs (q : Int) = (crF xs q : Int) ∧ codeL xs.length xs (q : Int) = 0) := by constructor <;> simp [crV, codeL, h1, h2]
      have hcode : codeL xs.length xs (q : Int) = 0 := by simp [codeL, h1, h2]
      go_enter Try.func9, Try.ntmps9
      go_wp2_with (go_at_call 53; refine (l06Code_c _ _ _ _ _ _ H.out hl hcap).mono ?_; rintro e w1 ⟨rfl, hU⟩; have HU0 := Lib.hid hU; clear hU)
      refine (l06Count_c _ _ _ _ _ (H.out.kept0 HU0.out) (by omega) hb HX.out).mono ?_
      rintro e w2 ⟨rfl, hU⟩
      have HU1 := Lib.hid (HU0.out.then0 (hU.upd))
      clear hU
      go_wp2_with fail
      go_ret2
      exact ⟨ret_int2 HE.out.1.symm HE.out.2.symm, HU1.out⟩
set_option maxHeartbeats 1600000 in
theorem iEvenCrossings_c (n : Int) (a : Option Addr) (c : Nat) (xs : List Int) (w : World) (h : IntsAt w a xs) (hl : xs.length ≤ 1048576) :
    Calls Try.prog 11 #[.int .i64 n, .slice a xs.length c] w fun e w' => e = .returned (.tuple #[.int .i64 (evV n xs), .int .i64 (evE n xs)]) ∧ Upd [] w w' := by
  have H := Lib.hid h; clear h
  cases h1 : lacB n xs
  · have HE : Hid (evV n xs = 0 ∧ evE n xs = 1) := by constructor <;> simp [evV, evE, h1]
    have htriv : True := trivial
    go_enter Try.func11, Try.ntmps11
    go_wp2_with (go_at_call 20; refine (iIsLacing_c _ _ _ _ _ H.out hl).mono ?_; rintro e w1 ⟨rfl, hU⟩; have HU0 := Lib.hid hU; clear hU)
    go_ret2
    exact ⟨ret_int2 HE.out.1.symm HE.out.2.symm, HU0.out⟩
  · have HE1 : Hid (evB xs = true → evV n xs = (crF xs 0 : Int) ∧ evE n xs = 0) := fun e => by constructor <;> simp [evV, evE, h1, e]
    have HE2 : Hid (evB xs = false → evV n xs = 0 ∧ evE n xs = 5) := fun e => by constructor <;> simp [evV, evE, h1, e]
    obtain ⟨hn, hb, hx⟩ := lac_bd h1
    have HX := Lib.hid hx
    clear hx
    subst hn
    have htriv : True := trivial
    go_enter Try.func11, Try.ntmps11
    go_wp2_with (go_at_call 20; refine (iIsLacing_c _ _ _ _ _ H.out hl).mono ?_; rintro e w1 ⟨rfl, hU⟩; have HU0 := Lib.hid hU; clear hU)
    clear h1
    refine (crossings_c _ _ _ 0 _ (H.out.kept0 HU0.out) (by omega) hb HX.out).mono ?_
    rintro e w2 ⟨rfl, hU⟩
    have HU1 := Lib.hid (HU0.out.then0 (hU))
    clear hU
    go_wp2_with fail
    go_loopw [7] (fun i wr => ∃ k : Nat, 1 ≤ k ∧ k ≤ xs.length ∧ i = .int .i64 k ∧ Hid (evP xs k) ∧ Hid (Upd [] w wr)) (fun i _ => 30 - (intOf i).toNat)
    case atStart => exact ⟨1, by omega, by omega, rfl, fun j hj => by rw [show j = 0 by omega], HU1.out⟩
    case round =>
      clear HU1 HU0
      obtain ⟨k, hk1, hk, rfl, HP, HU⟩ := hrel
      by_cases hlt : k < xs.length
      · have hl1 := crF_le xs k
        have hl0 := crF_le xs 0
        go_wp2_with fail
        refine (crossings_c _ _ _ k _ (H.out.kept0 HU.out) hlt hb HX.out).mono ?_
        rintro e w3 ⟨rfl, hU⟩
        have HV2 := Lib.hid (HU.out.then0 (hU))
        clear hU
        by_cases he : crF xs k = crF xs 0
        · have hne : ((crF xs k : Int) != (crF xs 0 : Int)) = false := by rw [he]; simp
          have HN : Hid (evP xs (k + 1)) := fun j hj => by
            by_cases e : j = k
            · rw [e]; exact he
            · exact HP.out j (by omega)
          have h2 : ¬ ¬ crF xs k = crF xs 0 := fun h => h he
          have hq1 : (crF xs k : Int) ≤ crF xs 0 := by omega
          have hq2 : (crF xs 0 : Int) ≤ crF xs k := by omega
          clear h2 he
          go_wp2_with fail
          all_goals go_roundw
          case rel => exact ⟨k + 1, by omega, by omega, by go_num, HN, HV2⟩
          case measure => simp [intOf]; omega
        · have hne : ((crF xs k : Int) != (crF xs 0 : Int)) = true := by rw [bne_iff_ne]; omega
          have HE := Lib.hid (HE2.out (evB_f hlt he))
          go_wp2_with fail
          all_goals go_ret2
          all_goals exact ⟨ret_int2 HE.out.1.symm HE.out.2.symm, HV2.out⟩
      · obtain rfl : k = xs.length := by omega
        have HE := Lib.hid (HE1.out (evB_t HP.out))
        go_wp2_with fail
        go_ret2
        exact ⟨ret_int2 HE.out.1.symm HE.out.2.symm, HU.out⟩
set_option maxHeartbeats 1600000 in
theorem sEvenCrossings_c (n : Int) (a : Option Addr) (c : Nat) (xs : List Int) (w : World) (h : IntsAt w a xs) (hl : xs.length ≤ 1048576) (hcap : xs.length ≤ c) :
    Calls Try.prog 12 #[.int .i64 n, .slice a xs.length c] w fun e w' => e = .returned (.tuple #[.int .i64 (evV n xs), .int .i64 (evE n xs)]) ∧ Upd [] w w' := by
  have H := Lib.hid h; clear h
  cases h1 : lacB n xs
  · have HE : Hid (evV n xs = 0 ∧ evE n xs = 1) := by constructor <;> simp [evV, evE, h1]
    have hcode : codeL n xs 0 = 1 := by simp [codeL, h1]
    go_enter Try.func12, Try.ntmps12
    go_wp2_with (go_at_call 53; refine (l06Code_c _ _ _ _ _ _ H.out hl hcap).mono ?_; rintro e w1 ⟨rfl, hU⟩; have HU0 := Lib.hid hU; clear hU)
    go_ret2
    exact ⟨ret_int2 HE.out.1.symm HE.out.2.symm, HU0.out⟩
  · have HE1 : Hid (evB xs = true → evV n xs = (crF xs 0 : Int) ∧ evE n xs = 0) := fun e => by constructor <;> simp [evV, evE, h1, e]
    have HE2 : Hid (evB xs = false → evV n xs = 0 ∧ evE n xs = 5) := fun e => by constructor <;> simp [evV, evE, h1, e]
    obtain ⟨hn, hb, hx⟩ := lac_bd h1
    have HX := Lib.hid hx
    clear hx
    subst hn
    have hcode : codeL xs.length xs 0 = 0 := by simp [codeL, h1, inB]; omega
    go_enter Try.func12, Try.ntmps12
    go_wp2_with (go_at_call 53; refine (l06Code_c _ _ _ _ _ _ H.out hl hcap).mono ?_; rintro e w1 ⟨rfl, hU⟩; have HU0 := Lib.hid hU; clear hU)
    clear h1
    go_wp2_with fail
    have HU1 := HU0
    go_loopw [7] (fun i wr => ∃ k : Nat, 1 ≤ k ∧ k ≤ xs.length ∧ i = .int .i64 k ∧ Hid (evP xs k) ∧ Hid (Upd [] w wr)) (fun i _ => 30 - (intOf i).toNat)
    case atStart => exact ⟨1, by omega, by omega, rfl, fun j hj => by rw [show j = 0 by omega], HU1.out⟩
    case round =>
      clear HU1 HU0
      obtain ⟨k, hk1, hk, rfl, HP, HU⟩ := hrel
      by_cases hlt : k < xs.length
      · have hl1 := crF_le xs k
        have hl0 := crF_le xs 0
        go_wp2_with fail
        refine (l06Count_c _ _ _ k _ (H.out.kept0 HU.out) hlt hb HX.out).mono ?_
        rintro e w3 ⟨rfl, hU⟩
        have HV := Lib.hid (HU.out.then0 (hU.upd))
        clear hU
        go_wp2_with fail
        refine (l06Count_c _ _ _ 0 _ (H.out.kept0 HV.out) (by omega) hb HX.out).mono ?_
        rintro e w4 ⟨rfl, hU⟩
        have HV2 := Lib.hid (HV.out.then0 (hU.upd))
        clear hU
        by_cases he : crF xs k = crF xs 0
        · have hne : ((crF xs k : Int) != (crF xs 0 : Int)) = false := by rw [he]; simp
          have HN : Hid (evP xs (k + 1)) := fun j hj => by
            by_cases e : j = k
            · rw [e]; exact he
            · exact HP.out j (by omega)
          have h2 : ¬ ¬ crF xs k = crF xs 0 := fun h => h he
          have hq1 : (crF xs k : Int) ≤ crF xs 0 := by omega
          have hq2 : (crF xs 0 : Int) ≤ crF xs k := by omega
          clear h2 he
          go_wp2_with fail
          all_goals go_roundw
          case rel => exact ⟨k + 1, by omega, by omega, by go_num, HN, HV2⟩
          case measure => simp [intOf]; omega
        · have hne : ((crF xs k : Int) != (crF xs 0 : Int)) = true := by rw [bne_iff_ne]; omega
          have HE := Lib.hid (HE2.out (evB_f hlt he))
          go_wp2_with fail
          all_goals go_ret2
          all_goals exact ⟨ret_int2 HE.out.1.symm HE.out.2.symm, HV2.out⟩
      · obtain rfl : k = xs.length := by omega
        have HE := Lib.hid (HE1.out (evB_t HP.out))
        go_wp2_with fail
        refine (l06Count_c _ _ _ 0 _ (H.out.kept0 HU.out) (by omega) hb HX.out).mono ?_
        rintro e w3 ⟨rfl, hU⟩
        have HV := Lib.hid (HU.out.then0 (hU.upd))
        clear hU
        go_wp2_with fail
        go_ret2
        exact ⟨ret_int2 HE.out.1.symm HE.out.2.symm, HV.out⟩
end Go.Proofs.Ytiiljmaianfdeaa
