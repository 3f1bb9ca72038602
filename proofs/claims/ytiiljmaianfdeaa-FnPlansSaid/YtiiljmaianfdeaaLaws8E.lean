/- The law of the plans. -/
import Derived.Test.YtiiljmaianfdeaaLawD
import Derived.Test.YtiiljmaianfdeaaDraw8b
import Derived.Deep.CutBlock
namespace Go.Proofs.Ytiiljmaianfdeaa
open Go.RowKit
set_option linter.unusedVariables false
set_option linter.unusedSimpArgs false

set_option maxRecDepth 20000 in
set_option maxHeartbeats 6400000 in
theorem FnPlans_walk (a : Option Addr) (c : Nat) (bs : List Int) (w : World) (h : U8At w a bs) : Calls Try.prog 4 #[.slice a bs.length c] w (RetT w) := by
  have HC := Lib.hid h
  clear h
  by_cases hl : bs.length ≤ 4096
  case neg =>
    go_enter Try.func4, Try.ntmps4
    go_wp2_with (go_at_call 6; refine (big_x _ _ _ _ hl).mono ?_; rintro e w' ⟨rfl, rfl⟩)
    go_ret
    exact ⟨rfl, Upd.refl _⟩
  go_enter Try.func4, Try.ntmps4
  go_wp2_with (go_at_call 6; refine (big_y _ _ _ _ hl).mono ?_; rintro e w' ⟨rfl, rfl⟩)
  refine (DrawLeastPlan_c a c bs _ HC.out hl).mono ?_
  rintro e w1 ⟨p, xs, d, q, es, f, t, rfl, hi1, hi2, ⟨lx, le⟩, hu⟩
  have HX := Lib.hid hi1
  have HE := Lib.hid hi2
  have U := Lib.hid hu
  replace HC := Lib.hid (HC.out.kept0 hu)
  clear hi1 hi2 hu
  go_wp2_with fail
  refine (iLeastPlan_c p q d f xs es t _ HX.out HE.out (by omega) (by omega)).mono ?_
  rintro e w2 ⟨v, rfl, o, hu⟩
  obtain ⟨pp, dp, rfl, ir, -⟩ := o.intsAt
  have HP := Lib.hid ir
  replace U := Lib.hid (U.out.then0 hu)
  replace HC := Lib.hid (HC.out.kept0 hu)
  replace HX := Lib.hid (HX.out.kept0 hu)
  replace HE := Lib.hid (HE.out.kept0 hu)
  clear o ir hu
  go_wp2_with fail
  refine (sLeastPlan_c p q d f xs es t _ HX.out HE.out (by omega) (by omega)).mono ?_
  rintro e w3 ⟨v, rfl, o, hu⟩
  obtain ⟨pq, dq, rfl, ir, -⟩ := o.intsAt
  have HP2 := Lib.hid ir
  replace U := Lib.hid (U.out.then0 hu)
  replace HC := Lib.hid (HC.out.kept0 hu)
  replace HX := Lib.hid (HX.out.kept0 hu)
  replace HE := Lib.hid (HE.out.kept0 hu)
  replace HP := Lib.hid (HP.out.kept0 hu)
  clear o ir hu
  have HLP := Lib.hid (@lp_law xs es t)
  have hpl := Lib.hid (lpL_le xs es t)
  obtain ⟨P, hP⟩ : ∃ T, lpL xs es t = T := ⟨_, rfl⟩
  obtain ⟨E1, hE1⟩ : ∃ T, lpE xs es t = T := ⟨_, rfl⟩
  rw [hP] at HP HP2 HLP hpl ⊢
  rw [hE1] at HLP ⊢
  clear hP hE1
  go_wp2_with fail
  refine (DrawAfterPlan_c a c bs _ HC.out hl).mono ?_
  rintro e w4 ⟨p2, x2, d2, q2, e2, f2, r2, t2, h2, rfl, hi1, hi2, hi3, ⟨lx2, le2, lt2⟩, -, hu⟩
  have HX2 := Lib.hid hi1
  have HE2 := Lib.hid hi2
  have HT2 := Lib.hid hi3
  clear hi1 hi2 hi3
  replace U := Lib.hid (U.out.then0 hu)
  replace HC := Lib.hid (HC.out.kept0 hu)
  replace HX := Lib.hid (HX.out.kept0 hu)
  replace HE := Lib.hid (HE.out.kept0 hu)
  replace HP := Lib.hid (HP.out.kept0 hu)
  replace HP2 := Lib.hid (HP2.out.kept0 hu)
  clear hu
  go_wp2_with fail
  refine (iAfterPlan_c p2 q2 r2 d2 f2 h2 x2 e2 t2 _ HX2.out HE2.out HT2.out (by omega) (by omega) (by omega)).mono ?_
  rintro e w5 ⟨v, rfl, o, hu⟩
  obtain ⟨pa, da, rfl, ir, -⟩ := o.intsAt
  have HA := Lib.hid ir
  replace U := Lib.hid (U.out.then0 hu)
  replace HC := Lib.hid (HC.out.kept0 hu)
  replace HX := Lib.hid (HX.out.kept0 hu)
  replace HE := Lib.hid (HE.out.kept0 hu)
  replace HP := Lib.hid (HP.out.kept0 hu)
  replace HP2 := Lib.hid (HP2.out.kept0 hu)
  replace HX2 := Lib.hid (HX2.out.kept0 hu)
  replace HE2 := Lib.hid (HE2.out.kept0 hu)
  replace HT2 := Lib.hid (HT2.out.kept0 hu)
  clear o ir hu
  go_wp2_with fail
  refine (sAfterPlan_c p2 q2 r2 d2 f2 h2 x2 e2 t2 _ HX2.out HE2.out HT2.out (by omega) (by omega) (by omega)).mono ?_
  rintro e w6 ⟨v, rfl, o, hu⟩
  obtain ⟨pb, db, rfl, ir, -⟩ := o.intsAt
  have HA2 := Lib.hid ir
  replace U := Lib.hid (U.out.then0 hu)
  replace HC := Lib.hid (HC.out.kept0 hu)
  replace HX := Lib.hid (HX.out.kept0 hu)
  replace HE := Lib.hid (HE.out.kept0 hu)
  replace HP := Lib.hid (HP.out.kept0 hu)
  replace HP2 := Lib.hid (HP2.out.kept0 hu)
  replace HX2 := Lib.hid (HX2.out.kept0 hu)
  replace HE2 := Lib.hid (HE2.out.kept0 hu)
  replace HT2 := Lib.hid (HT2.out.kept0 hu)
  replace HA := Lib.hid (HA.out.kept0 hu)
  clear o ir hu
  have HAP := Lib.hid (@ap_law x2 e2 t2)
  have hal := Lib.hid (apL_le x2 e2 t2)
  obtain ⟨A, hA⟩ : ∃ T, apL x2 e2 t2 = T := ⟨_, rfl⟩
  obtain ⟨E2, hE2⟩ : ∃ T, apE x2 e2 t2 = T := ⟨_, rfl⟩
  rw [hA] at HA HA2 HAP hal ⊢
  rw [hE2] at HAP ⊢
  clear hA hE2
  go_wp2_with fail
  refine (DrawUndoPlan_c a c bs _ HC.out hl).mono ?_
  rintro e w7 ⟨p3, y, d3, rfl, hi1, ly, hu⟩
  have HY := Lib.hid hi1
  clear hi1
  replace U := Lib.hid (U.out.then0 hu)
  replace HX := Lib.hid (HX.out.kept0 hu)
  replace HE := Lib.hid (HE.out.kept0 hu)
  replace HP := Lib.hid (HP.out.kept0 hu)
  replace HP2 := Lib.hid (HP2.out.kept0 hu)
  replace HX2 := Lib.hid (HX2.out.kept0 hu)
  replace HE2 := Lib.hid (HE2.out.kept0 hu)
  replace HT2 := Lib.hid (HT2.out.kept0 hu)
  replace HA := Lib.hid (HA.out.kept0 hu)
  replace HA2 := Lib.hid (HA2.out.kept0 hu)
  clear hu
  clear HC hl
  go_wp2_with fail
  refine (iUndoPlan_c p3 d3 y _ HY.out (by omega)).mono ?_
  rintro e w8 ⟨v, rfl, o, hu⟩
  obtain ⟨pu, du, rfl, ir, -⟩ := o.intsAt
  have HU := Lib.hid ir
  replace U := Lib.hid (U.out.then0 hu)
  replace HX := Lib.hid (HX.out.kept0 hu)
  replace HE := Lib.hid (HE.out.kept0 hu)
  replace HP := Lib.hid (HP.out.kept0 hu)
  replace HP2 := Lib.hid (HP2.out.kept0 hu)
  replace HX2 := Lib.hid (HX2.out.kept0 hu)
  replace HE2 := Lib.hid (HE2.out.kept0 hu)
  replace HT2 := Lib.hid (HT2.out.kept0 hu)
  replace HA := Lib.hid (HA.out.kept0 hu)
  replace HA2 := Lib.hid (HA2.out.kept0 hu)
  replace HY := Lib.hid (HY.out.kept0 hu)
  clear o ir hu
  go_wp2_with fail
  refine (sUndoPlan_c p3 d3 y _ HY.out (by omega)).mono ?_
  rintro e w9 ⟨v, rfl, o, hu⟩
  obtain ⟨pv, dv, rfl, ir, -⟩ := o.intsAt
  have HU2 := Lib.hid ir
  replace U := Lib.hid (U.out.then0 hu)
  replace HX := Lib.hid (HX.out.kept0 hu)
  replace HE := Lib.hid (HE.out.kept0 hu)
  replace HP := Lib.hid (HP.out.kept0 hu)
  replace HP2 := Lib.hid (HP2.out.kept0 hu)
  replace HX2 := Lib.hid (HX2.out.kept0 hu)
  replace HE2 := Lib.hid (HE2.out.kept0 hu)
  replace HT2 := Lib.hid (HT2.out.kept0 hu)
  replace HA := Lib.hid (HA.out.kept0 hu)
  replace HA2 := Lib.hid (HA2.out.kept0 hu)
  replace HU := Lib.hid (HU.out.kept0 hu)
  clear o ir hu
  have hul := Lib.hid (undoL_le y)
  obtain ⟨Un, hUn⟩ : ∃ T, undoL y = T := ⟨_, rfl⟩
  generalize undoE y = E3
  rw [hUn] at HU HU2 hul ⊢
  clear hUn HY
  go_wp2_with fail
  refine (likeInts_c _ _ _ _ P _ HP.out HP2.out (by have := hpl.out; omega)).mono ?_
  rintro e w10 ⟨rfl, hu⟩
  replace U := Lib.hid (U.out.then0 hu)
  replace HX := Lib.hid (HX.out.kept0 hu)
  replace HE := Lib.hid (HE.out.kept0 hu)
  replace HP := Lib.hid (HP.out.kept0 hu)
  replace HX2 := Lib.hid (HX2.out.kept0 hu)
  replace HE2 := Lib.hid (HE2.out.kept0 hu)
  replace HT2 := Lib.hid (HT2.out.kept0 hu)
  replace HA := Lib.hid (HA.out.kept0 hu)
  replace HA2 := Lib.hid (HA2.out.kept0 hu)
  replace HU := Lib.hid (HU.out.kept0 hu)
  replace HU2 := Lib.hid (HU2.out.kept0 hu)
  clear hu
  go_wp2_with fail
  refine (likeInts_c _ _ _ _ A _ HA.out HA2.out (by have := hal.out; omega)).mono ?_
  rintro e w11 ⟨rfl, hu⟩
  replace U := Lib.hid (U.out.then0 hu)
  replace HX := Lib.hid (HX.out.kept0 hu)
  replace HE := Lib.hid (HE.out.kept0 hu)
  replace HP := Lib.hid (HP.out.kept0 hu)
  replace HX2 := Lib.hid (HX2.out.kept0 hu)
  replace HE2 := Lib.hid (HE2.out.kept0 hu)
  replace HT2 := Lib.hid (HT2.out.kept0 hu)
  replace HA := Lib.hid (HA.out.kept0 hu)
  replace HU := Lib.hid (HU.out.kept0 hu)
  replace HU2 := Lib.hid (HU2.out.kept0 hu)
  clear hu
  go_wp2_with fail
  refine (likeInts_c _ _ _ _ Un _ HU.out HU2.out (by have := hul.out; omega)).mono ?_
  rintro e w12 ⟨rfl, hu⟩
  replace U := Lib.hid (U.out.then0 hu)
  replace HX := Lib.hid (HX.out.kept0 hu)
  replace HE := Lib.hid (HE.out.kept0 hu)
  replace HP := Lib.hid (HP.out.kept0 hu)
  replace HX2 := Lib.hid (HX2.out.kept0 hu)
  replace HE2 := Lib.hid (HE2.out.kept0 hu)
  replace HT2 := Lib.hid (HT2.out.kept0 hu)
  replace HA := Lib.hid (HA.out.kept0 hu)
  clear hu
  clear HP2 HA2 HU HU2 hul
  have HALL : Hid (Upd [] w w12 ∧ IntsAt w12 p xs ∧ IntsAt w12 q es ∧ IntsAt w12 pp P ∧ IntsAt w12 p2 x2 ∧ IntsAt w12 q2 e2 ∧ IntsAt w12 r2 t2 ∧ IntsAt w12 pa A) := ⟨U.out, HX.out, HE.out, HP.out, HX2.out, HE2.out, HT2.out, HA.out⟩
  clear U HX HE HP HX2 HE2 HT2 HA
  go_wp2_with fail
  refine (iIsEffect_c q2 f2 e2 _ HALL.out.2.2.2.2.2.1 (by omega)).mono ?_
  rintro e w' ⟨rfl, rfl⟩
  go_wp2_with fail
  refine (sIsEffect_c q2 f2 e2 _ HALL.out.2.2.2.2.2.1 (by omega)).mono ?_
  rintro e w' ⟨rfl, rfl⟩
  have U0 : Hid (Upd [] w12 w12) := Upd.refl _
  generalize effB e2 = eb
  go_upto_if 127 with fail
  go_cut [] from 126 (fun wx => Hid (Upd [] w12 wx))
  case first =>
    clear HLP hpl
    by_cases e0 : E2 = 0
    · subst e0
      obtain ⟨f1, f2', f3⟩ := HAP.out rfl
      have F1 := Lib.hid f1
      have F2 := Lib.hid f2'
      have F3 := Lib.hid f3
      clear f1 f2' f3 HAP
      have hul := Lib.hid (undoL_le t2)
      have HX2 : Hid (∀ w', Upd [] w12 w' → IntsAt w' p2 x2 ∧ IntsAt w' q2 e2 ∧ IntsAt w' pa A) := fun w' u => ⟨HALL.out.2.2.2.2.1.kept0 u, HALL.out.2.2.2.2.2.1.kept0 u, HALL.out.2.2.2.2.2.2.2.kept0 u⟩
      have HT := Lib.hid HALL.out.2.2.2.2.2.2.1
      clear HALL
      go_wp2_with fail
      refine (iUndoPlan_c r2 h2 t2 _ HT.out (by omega)).mono ?_
      rintro e w13 ⟨v, rfl, o, hu⟩
      obtain ⟨pm, dm, rfl, ir, -⟩ := o.intsAt
      have HM := Lib.hid ir
      replace U0 := Lib.hid (U0.out.then0 hu)
      clear o ir hu
      rw [F1.out]
      obtain ⟨M, hM⟩ : ∃ T, undoL t2 = T := ⟨_, rfl⟩
      rw [hM] at HM hul F2 F3 ⊢
      clear hM
      go_wp2_with fail
      refine (iAfterPlan_c pa q2 pm da f2 dm A e2 M _ (HX2.out _ U0.out).2.2 (HX2.out _ U0.out).2.1 HM.out (by have := hal.out; omega) (by omega) (by have := hul.out; omega)).mono ?_
      rintro e w14 ⟨v, rfl, o, hu⟩
      obtain ⟨pk, dk, rfl, ir, -⟩ := o.intsAt
      have HK := Lib.hid ir
      replace U0 := Lib.hid (U0.out.then0 hu)
      clear o ir hu
      rw [F2.out]
      rw [F3.out] at HK ⊢
      go_wp2_with fail
      refine (likeInts_c _ _ _ _ x2 _ HK.out (HX2.out _ U0.out).1 (by omega)).mono ?_
      rintro e w15 ⟨rfl, hu⟩
      replace U0 := Lib.hid (U0.out.then0 hu)
      clear hu
      go_wp2_with fail
      go_meet
      case rel => exact U0
    · go_wp2_with fail
      go_meet
      case rel => exact U0
  case rest =>
    clear HAP hal U0 lx2 le2 lt2 ly
    have U0 := hcut
    clear hcut
    by_cases e0 : E1 = 0
    case neg =>
      go_wp2_with fail
      go_ret
      exact ⟨rfl, HALL.out.1.then0 U0.out⟩
    case pos =>
      subst e0
      obtain ⟨f1, f2', f3, f4, f5, f6, f7⟩ := HLP.out rfl
      have F2 := Lib.hid f2'
      have F3 := Lib.hid f3
      have F4 := Lib.hid f4
      have F5 := Lib.hid f5
      have F6 := Lib.hid f6
      have F7 := Lib.hid f7
      clear f1 f2' f3 f4 f5 f6 f7 HLP
      have HX : Hid (∀ w', Upd [] w12 w' → IntsAt w' p xs ∧ IntsAt w' q es ∧ IntsAt w' pp P) := fun w' u => ⟨HALL.out.2.1.kept0 u, HALL.out.2.2.1.kept0 u, HALL.out.2.2.2.1.kept0 u⟩
      have UA := Lib.hid HALL.out.1
      clear HALL
      go_wp2_with fail
      refine (iAfterPlan_c p q pp d f dp xs es P _ (HX.out _ U0.out).1 (HX.out _ U0.out).2.1 (HX.out _ U0.out).2.2 (by omega) (by omega) (by have := hpl.out; omega)).mono ?_
      rintro e w13 ⟨v, rfl, o, hu⟩
      obtain ⟨pd, dd, rfl, ir, -⟩ := o.intsAt
      have HD := Lib.hid ir
      replace U0 := Lib.hid (U0.out.then0 hu)
      clear o ir hu
      rw [F3.out]
      have hdl := Lib.hid (apL_le xs es P)
      obtain ⟨Dn, hD⟩ : ∃ T, apL xs es P = T := ⟨_, rfl⟩
      rw [hD] at HD hdl F4 F5 ⊢
      clear hD F3
      go_wp2_with fail
      refine (iIsTrue_c pd dd Dn t _ HD.out (by have := hdl.out; omega)).mono ?_
      rintro e w14 ⟨rfl, hu⟩
      replace U0 := Lib.hid (U0.out.then0 hu)
      clear hu
      rw [F4.out, F5.out]
      clear F4 F5
      go_wp2_with fail
      refine (iIsTrue_c p d xs t _ (HX.out _ U0.out).1 (by omega)).mono ?_
      rintro e w15 ⟨rfl, hu⟩
      replace U0 := Lib.hid (U0.out.then0 hu)
      clear hu
      rw [F6.out, F7.out]
      clear F6
      obtain ⟨T0, hT0⟩ : ∃ T, effF P = T := ⟨_, rfl⟩
      have HT0 := Lib.hid hT0
      rw [hT0] at F2 F7 ⊢
      clear hT0
      have hT4 := F2.out
      have hTn : 0 ≤ T0 := by rw [← HT0.out]; exact effF_nonneg P
      clear F2 F7
      have hPl : P.length ≤ 13 := by have := hpl.out; omega
      go_wp2_with fail
      go_loopw [32, 33] (fun t i wr => ∃ (k : Nat) (T : Int), k ≤ P.length ∧ i = .int .i64 k ∧ t = .int .i64 T ∧ Hid (effF (P.take k) = T) ∧ Hid (Upd [] w12 wr)) (fun _ i _ => P.length - (intOf i).toNat)
      case atStart => exact ⟨0, 0, by omega, rfl, rfl, rfl, U0⟩
      case round =>
        clear U0
        obtain ⟨k, T, hk, rfl, rfl, HT, V⟩ := hrel
        obtain ⟨w16, ew16⟩ : ∃ x : World, x = wr := ⟨_, rfl⟩
        subst ew16
        by_cases hlt : k < P.length
        · obtain ⟨b1, o1, x, rfl, hcx, hx⟩ := (HX.out _ V.out).2.2.get hlt
          have hs := effF_step hx.out
          have hle := effF_le_take P (k + 1)
          have hTnn : 0 ≤ T := by rw [← HT.out]; exact effF_nonneg _
          have hTT : T + iabs x ≤ 4 := by have := HT.out; have := HT0.out; omega
          have HT2 : Hid (effF (P.take (k + 1)) = T + iabs x) := by show _ = _; rw [hs, HT.out]
          clear hs hle hx
          have i1 : (0 : Int) ≤ (k : Int) := by omega
          have i2 : (k : Int) < (P.length : Int) := by omega
          have hb : -4 ≤ x ∧ x ≤ 4 := by unfold iabs at hTT; split at hTT <;> omega
          have hw0 : IntKind.i64.wrap (-x) = -x := IntWalk.i64_in _ (by omega)
          by_cases hxn : x < 0
          · have hax : iabs x = -x := iabs_neg hxn
            rw [hax] at HT2 hTT
            have hw1 : IntKind.i64.wrap (T + -x) = T + -x := IntWalk.i64_in _ (by omega)
            clear hax
            go_wp2_with fail
            go_quiet (fail)
            go_wp2_with fail
            go_roundw
            case rel => exact ⟨k + 1, T + -x, by omega, by go_num, by go_num, HT2, (V.out).drewN _⟩
            case measure => simp [intOf]; omega
          · have hax : iabs x = x := iabs_pos hxn
            rw [hax] at HT2 hTT
            have hw1 : IntKind.i64.wrap (T + x) = T + x := IntWalk.i64_in _ (by omega)
            clear hax
            go_wp2_with fail
            go_quiet (fail)
            go_wp2_with fail
            go_roundw
            case rel => exact ⟨k + 1, T + x, by omega, by go_num, by go_num, HT2, (V.out).drewN _⟩
            case measure => simp [intOf]; omega
        · obtain rfl : k = P.length := by omega
          have hTT : T = T0 := by have := HT.out; rw [List.take_length] at this; rw [← this]; exact HT0.out
          clear HT HT0
          subst hTT
          by_cases hz : T = 0
          · subst hz
            go_wp2_with fail
            go_ret
            exact ⟨rfl, UA.out.then0 V.out⟩
          · have hbz : (T == 0) = false := beq_eq_false_iff_ne.2 hz
            go_wp2_with fail
            go_ret
            exact ⟨rfl, UA.out.then0 V.out⟩
end Go.Proofs.Ytiiljmaianfdeaa
