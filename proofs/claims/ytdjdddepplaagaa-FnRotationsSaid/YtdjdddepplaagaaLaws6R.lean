/- The law of the rotations. -/
import Derived.Test.YtdjdddepplaagaaLawD
import Derived.Test.YtdjdddepplaagaaDraw6b
namespace Go.Proofs.Ytdjdddepplaagaa
open Go.RowKit
set_option linter.unusedVariables false
set_option linter.unusedSimpArgs false

theorem rot_law {n b : Int} {xs : List Int} (h : codeL n xs b = 0) :
    (lacB n xs = true ∧ (0 ≤ b ∧ b ≤ n - 1) ∧ (6 ≤ n ∧ n ≤ 24)) ∧ lacB n (rotL n xs b) = true ∧ codeL n (rotL n xs b) (-b % n) = 0 ∧ rotL n (rotL n xs b) (-b % n) = xs := by
  have em : (n - b) % n = -b % n := by simp
  unfold codeL at h
  cases q1 : lacB n xs <;> cases q2 : inB b 0 (n - 1) <;> simp [q1, q2] at h
  have hb := inB_t q2
  have hn := flB_bd (lacB_t q1).1
  have e1 : rotL n xs b = rotTo xs b xs.length := by simp [rotL, q1, q2]
  have e2 := rot_lac q1 hb
  rw [← em]
  have m1 := Int.emod_nonneg (n - b) (show n ≠ 0 by omega)
  have m2 := Int.emod_lt_of_pos (n - b) (show 0 < n by omega)
  have e3 : inB ((n - b) % n) 0 (n - 1) = true := inB_mk (by omega)
  have e4 := rot_back q1 hb
  rw [e1]
  refine ⟨⟨rfl, hb, by omega⟩, e2, by simp only [codeL, e2, e3, if_true], ?_⟩
  simp only [rotL, e2, e3, Bool.and_self, if_true]
  exact e4
set_option maxRecDepth 20000 in
set_option maxHeartbeats 3200000 in
theorem FnRotations_walk (a : Option Addr) (c : Nat) (bs : List Int) (w : World) (h : U8At w a bs) : Calls Try.prog 3 #[.slice a bs.length c] w (RetT w) := by
  have HC := Lib.hid h
  clear h
  by_cases hl : bs.length ≤ 4096
  case neg =>
    go_enter Try.func3, Try.ntmps3
    go_wp2_with (go_at_call 11; refine (big_x _ _ _ _ hl).mono ?_; rintro e w' ⟨rfl, rfl⟩)
    go_ret
    exact ⟨rfl, Upd.refl _⟩
  go_enter Try.func3, Try.ntmps3
  go_wp2_with (go_at_call 11; refine (big_y _ _ _ _ hl).mono ?_; rintro e w' ⟨rfl, rfl⟩)
  refine (DrawRotateLacing_c a c bs _ HC.out hl).mono ?_
  rintro e w1 ⟨n, p, xs, d, k, rfl, hi1, lx, lk, hu⟩
  have HX : Hid (∀ w', Upd [] w1 w' → IntsAt w' p xs) := fun w' u => hi1.kept0 u
  have U := Lib.hid hu
  clear hi1 hu
  go_wp2_with fail
  refine (iRotateLacing_c n p d xs k _ (HX.out _ (Upd.refl _)) (by omega)).mono ?_
  rintro e w2 ⟨v, rfl, o, hu⟩
  obtain ⟨pr, dr, rfl, ir, hcr⟩ := o.intsAt
  have V2 := Lib.hid hu
  have HR : Hid (∀ w', Upd [] w2 w' → IntsAt w' pr (rotL n xs k)) := fun w' u => ir.kept0 u
  clear o ir hu
  go_wp2_with fail
  refine (sRotateLacing_c n p d xs k _ (HX.out _ V2.out) (by omega) lk).mono ?_
  rintro e w3 ⟨v, rfl, o, hu⟩
  obtain ⟨pm, dm, rfl, im, -⟩ := o.intsAt
  have V3 := Lib.hid (V2.out.then0 hu)
  have HA : Hid (∀ w', Upd [] w3 w' → IntsAt w' p xs ∧ IntsAt w' pr (rotL n xs k) ∧ IntsAt w' pm (rotL n xs k)) := fun w' u => ⟨HX.out _ (V3.out.then0 u), HR.out _ (hu.then0 u), im.kept0 u⟩
  have UA := Lib.hid (U.out.then0 V3.out)
  have hrl : Hid ((rotL n xs k).length ≤ 1048576) := by
    show _ ≤ _
    unfold rotL; split
    · rw [rotTo_length]; omega
    · simp
  clear o im hu HX HR U V2 V3 hcr
  have HN := Lib.hid (@rot_law n k xs)
  obtain ⟨R, hR⟩ : ∃ T, rotL n xs k = T := ⟨_, rfl⟩
  obtain ⟨E, hE⟩ : ∃ T, codeL n xs k = T := ⟨_, rfl⟩
  rw [hR] at HA HN hrl ⊢
  rw [hE] at HN ⊢
  clear hR hE
  go_wp2_with fail
  refine (likeInts_c _ _ _ _ R _ (HA.out _ (Upd.refl _)).2.1 (HA.out _ (Upd.refl _)).2.2 hrl.out).mono ?_
  rintro e w4 ⟨rfl, hu⟩
  have V4 := Lib.hid hu
  clear hu
  by_cases e0 : E = 0
  case neg =>
    go_wp2_with fail
    go_ret
    exact ⟨rfl, UA.out.then0 V4.out⟩
  subst e0
  obtain ⟨⟨n1, n2, n3⟩, n4, n5, n6⟩ := HN.out rfl
  have N1 := Lib.hid n1
  have N4 := Lib.hid n4
  have N5 := Lib.hid n5
  have N6 := Lib.hid n6
  have hmod : Int.tmod (n - k) n = (n - k) % n := Int.tmod_eq_emod_of_nonneg (by omega)
  have hne : ¬ n = 0 := by omega
  have hw : IntKind.i64.wrap (n - k) = n - k := IntWalk.i64_in _ (by omega)
  clear HN n1 n4 n5 n6
  go_wp2_with fail
  refine (iRotateLacing_c n pr dr R (-k % n) _ (HA.out _ V4.out).2.1 hrl.out).mono ?_
  rintro e w5 ⟨v, rfl, o, hu⟩
  obtain ⟨pb, db, rfl, ib, -⟩ := o.intsAt
  rw [N5.out, N6.out]
  rw [N6.out] at ib
  have V5 := Lib.hid (V4.out.then0 hu)
  have HB : Hid (∀ w', Upd [] w5 w' → IntsAt w' pb xs) := fun w' u => ib.kept0 u
  clear o ib hu V4
  go_wp2_with fail
  refine (iIsLacing_c n pr dr R _ (HA.out _ V5.out).2.1 hrl.out).mono ?_
  rintro e w6 ⟨rfl, hu⟩
  rw [N4.out]
  have V6 := Lib.hid (V5.out.then0 hu)
  have T6 := Lib.hid hu
  clear hu
  go_wp2_with fail
  refine (likeInts_c _ _ _ _ xs _ (HB.out _ T6.out) (HA.out _ V6.out).1 (by omega)).mono ?_
  rintro e w7 ⟨rfl, hu⟩
  have V7 := Lib.hid (V6.out.then0 hu)
  clear hu
  go_wp2_with fail
  go_ret
  exact ⟨rfl, UA.out.then0 V7.out⟩
end Go.Proofs.Ytdjdddepplaagaa
