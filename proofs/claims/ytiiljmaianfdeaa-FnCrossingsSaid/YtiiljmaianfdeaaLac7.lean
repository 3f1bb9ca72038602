/- The contracts of chapter 6: crossings. -/
import Derived.Test.YtiiljmaianfdeaaLac3
namespace Go.Proofs.Ytiiljmaianfdeaa
open Go.RowKit
set_option linter.unusedVariables false
set_option linter.unusedSimpArgs false

/-- Does the spoke at p cross the one d places on? -/
def crossB (xs : List Int) (p d : Nat) : Bool :=
  decide ((d : Int) < shF xs p - shF xs ((p + d) % xs.length) ∨ shF xs p - shF xs ((p + d) % xs.length) < (d : Int) - xs.length)
def crTo (xs : List Int) (p : Nat) : Nat → Nat
  | 0 => 0
  | j + 1 => crTo xs p j + (if crossB xs p (j + 1) then 1 else 0)
theorem crTo_le (xs : List Int) (p j : Nat) : crTo xs p j ≤ j := by
  induction j with
  | zero => simp [crTo]
  | succ j ih => rw [crTo]; split <;> omega
def crF (xs : List Int) (p : Nat) : Nat := crTo xs p (xs.length - 1)
theorem crTo_t {xs : List Int} {p j : Nat} (h : crossB xs p (j + 1) = true) : crTo xs p (j + 1) = crTo xs p j + 1 := by rw [crTo, if_pos h]
theorem crTo_f {xs : List Int} {p j : Nat} (h : crossB xs p (j + 1) = false) : crTo xs p (j + 1) = crTo xs p j := by rw [crTo, h]; rfl
theorem shTo_get (xs : List Int) {k : Nat} (h : k < xs.length) : (shTo xs xs.length)[k]? = some (shF xs k) := upTo_get _ _ _ h
theorem shTo_length (xs : List Int) (k : Nat) : (shTo xs k).length = k := upTo_one _ k
theorem tmod_nat (a n p : Nat) (h : (a % n : Nat) = p) : Int.tmod (a : Int) (n : Int) = (p : Int) := by
  rw [Int.tmod_eq_emod_of_nonneg (by omega)]; omega
set_option maxHeartbeats 1600000 in
theorem crossings_c (a : Option Addr) (c : Nat) (xs : List Int) (p : Nat) (w : World) (h : IntsAt w a xs) (hp : p < xs.length) (hn : 6 ≤ (xs.length : Int) ∧ (xs.length : Int) ≤ 24) (hx : ∀ x, x ∈ xs → 0 ≤ x ∧ x ≤ (xs.length : Int) - 1) :
    Calls Try.prog 52 #[.int .i64 (xs.length : Int), .slice a xs.length c, .int .i64 (p : Int)] w fun e w' => e = .returned (.int .i64 (crF xs p : Int)) ∧ Upd [] w w' := by
  have H := Lib.hid (show _ ∧ True from ⟨h, trivial⟩); clear h
  have HX := Lib.hid hx; clear hx
  have HD0 : Hid (crF xs p = crTo xs p (xs.length - 1)) := rfl
  have hnz : ¬ xs = [] := fun e => by rw [e] at hn; simp at hn
  go_enter Try.func52, Try.ntmps52
  go_wp2_with fail
  refine (shifts_c _ _ _ _ H.out.1 hn HX.out).mono ?_
  rintro e w1 ⟨v, rfl, hO, hU⟩
  obtain ⟨av, cv, hv, hi, -⟩ := hO.intsAt
  rw [shTo_length] at hv
  subst hv
  have HI : Hid (∀ w', Dr w1 w' → IntsAt w' av (shTo xs xs.length)) := fun w' u => hi.dr u
  have HU0 := Lib.hid hU
  clear hO hU hi
  go_wp2_with fail
  go_loopw [8, 9] (fun v i wr => ∃ j : Nat, j < xs.length ∧ i = .int .i64 ((j : Int) + 1) ∧ v = .int .i64 (crTo xs p j : Int) ∧ Hid (Dr w1 wr)) (fun _ i _ => 30 - (intOf i).toNat)
  case atStart => exact ⟨0, by omega, rfl, rfl, Dr.refl _⟩
  case round =>
    obtain ⟨j, hj, rfl, rfl, HD⟩ := hrel
    have hcl := crTo_le xs p j
    by_cases hlt : j + 1 < xs.length
    · obtain ⟨p2, hp2e⟩ : ∃ p2, (p + (j + 1)) % xs.length = p2 := ⟨_, rfl⟩
      have hp2 : p2 < xs.length := by rw [← hp2e]; exact Nat.mod_lt _ (by omega)
      have hb1 := shF_bd xs p (by omega)
      have hb2 := shF_bd xs p2 (by omega)
      have HP2 := Lib.hid hp2e
      have hw0 : ((p : Int) + ((j : Int) + 1)) = ((p + (j + 1) : Nat) : Int) := by omega
      have hw1 : IntKind.i64.wrap ((p : Int) + ((j : Int) + 1)) = (p : Int) + ((j : Int) + 1) := IntWalk.i64_in _ (by omega)
      have hw2 : ((p : Int) + ((j : Int) + 1)).tmod xs.length = (p2 : Int) := by rw [hw0]; exact tmod_nat _ _ _ hp2e
      have hw3 : IntKind.i64.wrap (shF xs p - shF xs p2) = shF xs p - shF xs p2 := IntWalk.i64_in _ (by omega)
      have hw4 : IntKind.i64.wrap (p2 : Int) = p2 := IntWalk.i64_in _ (by omega)
      clear hp2e hw0
      have HW := Lib.hid (show _ ∧ _ ∧ _ ∧ _ from ⟨hw1, hw2, hw3, hw4⟩)
      have i0 : (p : Int) < (xs.length : Int) := by omega
      have i1 : (p2 : Int) < (xs.length : Int) := by omega
      have i2 : (j : Int) + 1 < (xs.length : Int) := by omega
      clear hw1 hw2 hw3 hw4
      have HR : Hid (∀ nq, Dr w1 (wr.drewN nq)) := fun nq => HD.out.drewN nq
      have hcases : ((j : Int) + 1 < shF xs p - shF xs p2 ∧ crTo xs p (j + 1) = crTo xs p j + 1) ∨ (¬ (j : Int) + 1 < shF xs p - shF xs p2 ∧ shF xs p - shF xs p2 < (j : Int) + 1 - xs.length ∧ crTo xs p (j + 1) = crTo xs p j + 1) ∨ (¬ (j : Int) + 1 < shF xs p - shF xs p2 ∧ ¬ shF xs p - shF xs p2 < (j : Int) + 1 - xs.length ∧ crTo xs p (j + 1) = crTo xs p j) := by
        by_cases q1 : (j : Int) + 1 < shF xs p - shF xs p2
        · left; exact ⟨q1, crTo_t (decide_eq_true (by rw [HP2.out]; left; omega))⟩
        · by_cases q2 : shF xs p - shF xs p2 < (j : Int) + 1 - xs.length
          · right; left; exact ⟨q1, q2, crTo_t (decide_eq_true (by rw [HP2.out]; right; omega))⟩
          · right; right; exact ⟨q1, q2, crTo_f (decide_eq_false (by rw [HP2.out]; omega))⟩
      rcases hcases with ⟨q1, HN⟩ | ⟨q1, q2, HN⟩ | ⟨q1, q2, HN⟩
      all_goals
          replace HN := Lib.hid HN
          have hc1 := (HI.out _ HD.out)
          obtain ⟨gb, goff, s1, rfl, hcs1, hs1⟩ := hc1.get (k := p) (by rw [shTo_length]; exact hp)
          obtain ⟨gb', goff', s2, e', hcs2, hs2⟩ := hc1.get (k := p2) (by rw [shTo_length]; exact hp2)
          cases e'
          obtain rfl : s1 = shF xs p := by have := hs1.out; rw [shTo_get xs hp] at this; simpa using this.symm
          obtain rfl : s2 = shF xs p2 := by have := hs2.out; rw [shTo_get xs hp2] at this; simpa using this.symm
          clear hc1
          go_wp2
          obtain ⟨hw1, hw2, hw3, hw4⟩ := HW.out
          go_quiet (fail)
          clear hw1 hw2 hw3 hw4
          go_wp2
          all_goals go_roundw
          all_goals (first | exact ⟨j + 1, by omega, congrArg (Value.int .i64) (by omega), congrArg (Value.int .i64) (by have := HN.out; omega), HR.out _⟩ | (simp [intOf]; omega))
    · obtain rfl : j = xs.length - 1 := by omega
      go_wp2
      go_ret
      exact ⟨ret_int (by rw [HD0.out]), (HU0.out).then0 HD.out.upd⟩
set_option maxHeartbeats 1600000 in
theorem l06Count_c (a : Option Addr) (c : Nat) (xs : List Int) (p : Nat) (w : World) (h : IntsAt w a xs) (hp : p < xs.length) (hn : 6 ≤ (xs.length : Int) ∧ (xs.length : Int) ≤ 24) (hx : ∀ x, x ∈ xs → 0 ≤ x ∧ x ≤ (xs.length : Int) - 1) :
    Calls Try.prog 54 #[.int .i64 (xs.length : Int), .slice a xs.length c, .int .i64 (p : Int)] w fun e w' => e = .returned (.int .i64 (crF xs p : Int)) ∧ Dr w w' := by
  have H := Lib.hid (show _ ∧ True from ⟨h, trivial⟩); clear h
  have HX := Lib.hid hx; clear hx
  have HD0 : Hid (crF xs p = crTo xs p (xs.length - 1)) := rfl
  have hnz : ¬ xs = [] := fun e => by rw [e] at hn; simp at hn
  go_enter Try.func54, Try.ntmps54
  go_wp2_with fail
  go_loopw [7, 8] (fun v i wr => ∃ j : Nat, j < xs.length ∧ i = .int .i64 ((j : Int) + 1) ∧ v = .int .i64 (crTo xs p j : Int) ∧ Hid (Dr w wr)) (fun _ i _ => 30 - (intOf i).toNat)
  case atStart => exact ⟨0, by omega, rfl, rfl, Dr.refl _⟩
  case round =>
    obtain ⟨j, hj, rfl, rfl, HD⟩ := hrel
    have hcl := crTo_le xs p j
    by_cases hlt : j + 1 < xs.length
    · obtain ⟨p2, hp2e⟩ : ∃ p2, (p + (j + 1)) % xs.length = p2 := ⟨_, rfl⟩
      have hp2 : p2 < xs.length := by rw [← hp2e]; exact Nat.mod_lt _ (by omega)
      have hb1 := shF_bd xs p (by omega)
      have hb2 := shF_bd xs p2 (by omega)
      have HP2 := Lib.hid hp2e
      have hw0 : ((p : Int) + ((j : Int) + 1)) = ((p + (j + 1) : Nat) : Int) := by omega
      have hw1 : IntKind.i64.wrap ((p : Int) + ((j : Int) + 1)) = (p : Int) + ((j : Int) + 1) := IntWalk.i64_in _ (by omega)
      have hw2 : ((p : Int) + ((j : Int) + 1)).tmod xs.length = (p2 : Int) := by rw [hw0]; exact tmod_nat _ _ _ hp2e
      have hw3 : IntKind.i64.wrap (shF xs p - shF xs p2) = shF xs p - shF xs p2 := IntWalk.i64_in _ (by omega)
      have hw4 : IntKind.i64.wrap (p2 : Int) = p2 := IntWalk.i64_in _ (by omega)
      clear hp2e hw0
      have HW := Lib.hid (show _ ∧ _ ∧ _ ∧ _ from ⟨hw1, hw2, hw3, hw4⟩)
      have i0 : (p : Int) < (xs.length : Int) := by omega
      have i1 : (p2 : Int) < (xs.length : Int) := by omega
      have i2 : (j : Int) + 1 < (xs.length : Int) := by omega
      clear hw1 hw2 hw3 hw4
      have HR : Hid (∀ nq, Dr w (wr.drewN nq)) := fun nq => HD.out.drewN nq
      have hcases : ((j : Int) + 1 < shF xs p - shF xs p2 ∧ crTo xs p (j + 1) = crTo xs p j + 1) ∨ (¬ (j : Int) + 1 < shF xs p - shF xs p2 ∧ shF xs p - shF xs p2 < (j : Int) + 1 - xs.length ∧ crTo xs p (j + 1) = crTo xs p j + 1) ∨ (¬ (j : Int) + 1 < shF xs p - shF xs p2 ∧ ¬ shF xs p - shF xs p2 < (j : Int) + 1 - xs.length ∧ crTo xs p (j + 1) = crTo xs p j) := by
        by_cases q1 : (j : Int) + 1 < shF xs p - shF xs p2
        · left; exact ⟨q1, crTo_t (decide_eq_true (by rw [HP2.out]; left; omega))⟩
        · by_cases q2 : shF xs p - shF xs p2 < (j : Int) + 1 - xs.length
          · right; left; exact ⟨q1, q2, crTo_t (decide_eq_true (by rw [HP2.out]; right; omega))⟩
          · right; right; exact ⟨q1, q2, crTo_f (decide_eq_false (by rw [HP2.out]; omega))⟩
      rcases hcases with ⟨q1, HN⟩ | ⟨q1, q2, HN⟩ | ⟨q1, q2, HN⟩
      all_goals
          replace HN := Lib.hid HN
          have KS : Hid (∀ (z : Nat) (w1 : World), Dr w w1 → (z = p ∨ z = p2) → Calls Try.prog 84 #[.int .i64 (xs.length : Int), .slice a xs.length c, .int .i64 (z : Int)] w1 fun e w' => e = .returned (.int .i64 (shF xs z)) ∧ w1 = w') :=
            fun z w1 hd hz => l06Shift_c _ _ _ _ _ (H.out.1.dr hd) (by rcases hz with rfl | rfl <;> omega) hn HX.out
          go_wp2
          obtain ⟨hw1, hw2, hw3, hw4⟩ := HW.out
          go_quiet ((go_at_call 84; exact quiet0 (KS.out _ _ (by repeat (first | exact Dr.refl _ | apply Dr.drewN | exact HD.out)) (by first | exact .inl rfl | exact .inr rfl))))
          clear hw1 hw2 hw3 hw4
          go_wp2
          all_goals go_roundw
          all_goals (first | exact ⟨j + 1, by omega, congrArg (Value.int .i64) (by omega), congrArg (Value.int .i64) (by have := HN.out; omega), HR.out _⟩ | (simp [intOf]; omega))
    · obtain rfl : j = xs.length - 1 := by omega
      go_wp2
      go_ret
      exact ⟨ret_int (by rw [HD0.out]), HD.out⟩
end Go.Proofs.Ytiiljmaianfdeaa
