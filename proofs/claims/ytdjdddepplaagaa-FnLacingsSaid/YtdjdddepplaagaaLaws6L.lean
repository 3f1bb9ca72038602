/- The law of the lacings. -/
import Derived.Test.YtdjdddepplaagaaLawD
import Derived.Test.YtdjdddepplaagaaDraw6c
namespace Go.Proofs.Ytdjdddepplaagaa
open Go.RowKit
set_option linter.unusedVariables false
set_option linter.unusedSimpArgs false

theorem shl_law {n : Int} {xs : List Int} (h : lacE n xs = 0) : lacB n xs = true ∧ ((shiftsL n xs).length = xs.length ∧ ∀ k x y, k < xs.length → xs[k]? = some x → (shiftsL n xs)[k]? = some y → ((k : Int) + y - x).tmod n = 0 ∧ ¬ y < (-n).tdiv 2 ∧ y < n / 2) ∧ lacE n (mirL n xs) = 0 ∧ mirL n (mirL n xs) = xs := by
  have h1 : lacB n xs = true := by unfold lacE at h; cases q : lacB n xs <;> simp [q] at h; rfl
  have e1 : shiftsL n xs = shTo xs xs.length := by simp [shiftsL, h1]
  have e2 : mirL n xs = mirTo xs xs.length := by simp [mirL, h1]
  have e3 := mir_lac h1
  refine ⟨h1, ⟨by rw [e1]; exact upTo_one _ _, fun k x y hk hx hy => ?_⟩, by rw [e2]; simp [lacE, e3], ?_⟩
  · rw [e1] at hy
    have hy2 := upTo_get (shF xs) xs.length k hk
    have : y = shF xs k := by unfold shTo at hy; rw [hy2] at hy; simpa using hy.symm
    have hl := sh_law h1 hk
    rw [this]
    have hx2 : xs.getD k 0 = x := by rw [List.getD_eq_getElem?_getD, hx]; rfl
    rw [hx2] at hl
    exact ⟨hl.1, by omega, hl.2.2⟩
  · rw [e2]; simp only [mirL, e3, if_true]; exact mir_back h1
theorem usl_law {n c : Int} (h : usualE n c = 0) : lacB n (usualL n c) = true := by
  unfold usualE at h
  cases q1 : flB n <;> cases q2 : inB c 0 (n / 2 - 1) <;> simp [q1, q2] at h
  exact usual_ok q1 (inB_t q2)
set_option maxRecDepth 20000 in
set_option maxHeartbeats 6400000 in
theorem FnLacings_walk (a : Option Addr) (c : Nat) (bs : List Int) (w : World) (h : U8At w a bs) : Calls Try.prog 4 #[.slice a bs.length c] w (RetT w) := by
  have HC := Lib.hid h
  clear h
  by_cases hl : bs.length ≤ 4096
  case neg =>
    go_enter Try.func4, Try.ntmps4
    go_wp2_with (go_at_call 11; refine (big_x _ _ _ _ hl).mono ?_; rintro e w' ⟨rfl, rfl⟩)
    go_ret
    exact ⟨rfl, Upd.refl _⟩
  go_enter Try.func4, Try.ntmps4
  go_wp2_with (go_at_call 11; refine (big_y _ _ _ _ hl).mono ?_; rintro e w' ⟨rfl, rfl⟩)
  refine (DrawShiftsOf_c a c bs _ HC.out hl).mono ?_
  rintro e w1 ⟨n, p, xs, d, rfl, hi1, lx, lk, hu⟩
  have HX : Hid (∀ w', Upd [] w1 w' → IntsAt w' p xs) := fun w' u => hi1.kept0 u
  have U := Lib.hid hu
  clear hi1 hu
  go_wp2_with fail
  refine (iShiftsOf_c n p d xs _ (HX.out _ (Upd.refl _)) (by omega)).mono ?_
  rintro e w2 ⟨v, rfl, o, hu⟩
  obtain ⟨ps, ds, rfl, ir, -⟩ := o.intsAt
  have V2 := Lib.hid hu
  have HS : Hid (∀ w', Upd [] w2 w' → IntsAt w' ps (shiftsL n xs)) := fun w' u => ir.kept0 u
  clear o ir hu
  go_wp2_with fail
  refine (sShiftsOf_c n p d xs _ (HX.out _ V2.out) (by omega) lk).mono ?_
  rintro e w3 ⟨v, rfl, o, hu⟩
  obtain ⟨pt, dt, rfl, ir, -⟩ := o.intsAt
  have V3 := Lib.hid (V2.out.then0 hu)
  have T3 := Lib.hid hu
  have HT : Hid (∀ w', Upd [] w3 w' → IntsAt w' pt (shiftsL n xs)) := fun w' u => ir.kept0 u
  clear o ir hu
  go_wp2_with fail
  refine (iMirrorLacing_c n p d xs _ (HX.out _ V3.out) (by omega)).mono ?_
  rintro e w4 ⟨v, rfl, o, hu⟩
  obtain ⟨pm, dm, rfl, ir, -⟩ := o.intsAt
  have V4 := Lib.hid (V3.out.then0 hu)
  have T4 := Lib.hid (T3.out.then0 hu)
  have S4 := Lib.hid hu
  have HM : Hid (∀ w', Upd [] w4 w' → IntsAt w' pm (mirL n xs)) := fun w' u => ir.kept0 u
  clear o ir hu
  go_wp2_with fail
  refine (sMirrorLacing_c n p d xs _ (HX.out _ V4.out) (by omega) lk).mono ?_
  rintro e w5 ⟨v, rfl, o, hu⟩
  obtain ⟨pn, dn, rfl, ir, -⟩ := o.intsAt
  have V5 := Lib.hid (V4.out.then0 hu)
  have HA5 : Hid (∀ w', Upd [] w5 w' → IntsAt w' p xs ∧ IntsAt w' ps (shiftsL n xs) ∧ IntsAt w' pt (shiftsL n xs) ∧ IntsAt w' pm (mirL n xs) ∧ IntsAt w' pn (mirL n xs)) := fun w' u =>
    ⟨HX.out _ (V5.out.then0 u), HS.out _ ((T4.out.then0 hu).then0 u), HT.out _ ((S4.out.then0 hu).then0 u), HM.out _ (hu.then0 u), ir.kept0 u⟩
  have U5 := Lib.hid (U.out.then0 V5.out)
  clear o ir hu HX HS HT HM U V2 V3 V4 V5 T3 T4 S4
  have HN := Lib.hid (@shl_law n xs)
  have HLE : Hid (lacB n xs = decide (lacE n xs = 0)) := by show _ = _; unfold lacE; cases lacB n xs <;> simp
  have hsl : Hid ((shiftsL n xs).length ≤ 1048576) := by
    show _ ≤ _
    unfold shiftsL; split
    · have : (shTo xs xs.length).length = xs.length := upTo_one _ _
      omega
    · simp
  have hml : Hid ((mirL n xs).length ≤ 1048576) := by
    show _ ≤ _
    unfold mirL; split
    · rw [mirTo_length]; omega
    · simp
  obtain ⟨S, hS⟩ : ∃ T, shiftsL n xs = T := ⟨_, rfl⟩
  obtain ⟨M, hM⟩ : ∃ T, mirL n xs = T := ⟨_, rfl⟩
  obtain ⟨E, hE⟩ : ∃ T, lacE n xs = T := ⟨_, rfl⟩
  rw [hS] at HA5 HN hsl ⊢
  rw [hM] at HA5 HN hml ⊢
  rw [hE] at HN HLE ⊢
  clear hS hM hE
  go_wp2_with fail
  refine (DrawUsualLacing_c a c bs _ (HC.out.kept0 U5.out) hl).mono ?_
  rintro e w6 ⟨n2, k2, rfl, hu⟩
  have V6 := Lib.hid hu
  clear hu
  go_wp2_with fail
  refine (iUsualLacing_c n2 k2 _).mono ?_
  rintro e w7 ⟨v, rfl, o, hu⟩
  obtain ⟨pu, du, rfl, ir, -⟩ := o.intsAt
  have V7 := Lib.hid (V6.out.then0 hu)
  have HU7 : Hid (∀ w', Upd [] w7 w' → IntsAt w' pu (usualL n2 k2)) := fun w' u => ir.kept0 u
  clear o ir hu V6
  go_wp2_with fail
  refine (sUsualLacing_c n2 k2 _).mono ?_
  rintro e W ⟨v, rfl, o, hu⟩
  obtain ⟨pv, dv, rfl, ir, -⟩ := o.intsAt
  have HA : Hid (∀ w', Upd [] W w' → IntsAt w' p xs ∧ IntsAt w' ps S ∧ IntsAt w' pt S ∧ IntsAt w' pm M ∧ IntsAt w' pn M ∧ IntsAt w' pu (usualL n2 k2) ∧ IntsAt w' pv (usualL n2 k2)) := fun w' u => by
    have h5 := HA5.out _ ((V7.out.then0 hu).then0 u)
    exact ⟨h5.1, h5.2.1, h5.2.2.1, h5.2.2.2.1, h5.2.2.2.2, HU7.out _ (hu.then0 u), ir.kept0 u⟩
  have UA := Lib.hid (U5.out.then0 (V7.out.then0 hu))
  clear o ir hu HA5 U5 V7 HU7
  have NU := Lib.hid (@usl_law n2 k2)
  have hul : Hid ((usualL n2 k2).length ≤ 1048576) := by
    show _ ≤ _
    unfold usualL; split
    · rename_i hh
      simp only [Bool.and_eq_true] at hh
      have := flB_bd hh.1
      rw [usualF_length]; omega
    · simp
  obtain ⟨UL, hUL⟩ : ∃ T, usualL n2 k2 = T := ⟨_, rfl⟩
  obtain ⟨E3, hE3⟩ : ∃ T, usualE n2 k2 = T := ⟨_, rfl⟩
  rw [hUL] at HA NU hul ⊢
  rw [hE3] at NU ⊢
  clear hUL hE3
  go_wp2_with fail
  refine (likeInts_c _ _ _ _ S _ (HA.out _ (Upd.refl _)).2.1 (HA.out _ (Upd.refl _)).2.2.1 hsl.out).mono ?_
  rintro e wa ⟨rfl, hu⟩
  have Va := Lib.hid hu
  clear hu
  go_wp2_with fail
  refine (likeInts_c _ _ _ _ M _ (HA.out _ Va.out).2.2.2.1 (HA.out _ Va.out).2.2.2.2.1 hml.out).mono ?_
  rintro e wb ⟨rfl, hu⟩
  have Vb := Lib.hid (Va.out.then0 hu)
  clear hu Va
  go_wp2_with fail
  refine (likeInts_c _ _ _ _ UL _ (HA.out _ Vb.out).2.2.2.2.2.1 (HA.out _ Vb.out).2.2.2.2.2.2 hul.out).mono ?_
  rintro e wc ⟨rfl, hu⟩
  have Vc := Lib.hid (Vb.out.then0 hu)
  clear hu Vb
  go_wp2_with fail
  refine (iIsLacing_c n p d xs _ (HA.out _ Vc.out).1 (by omega)).mono ?_
  rintro e wd ⟨rfl, hu⟩
  have Vd := Lib.hid (Vc.out.then0 hu)
  clear hu Vc
  rw [HLE.out]
  by_cases e0 : E = 0
  case neg =>
    rw [decide_eq_false e0]
    by_cases e3 : E3 = 0
    · subst e3
      have NU2 : Hid (lacB n2 UL = true) := NU.out rfl
      clear NU
      go_wp2_with fail
      refine (iIsLacing_c n2 pu du UL _ (HA.out _ Vd.out).2.2.2.2.2.1 hul.out).mono ?_
      rintro e we ⟨rfl, hu⟩
      have Ve := Lib.hid (Vd.out.then0 hu)
      clear hu
      rw [NU2.out]
      go_wp2_with fail
      go_ret
      exact ⟨rfl, UA.out.then0 Ve.out⟩
    · go_wp2_with fail
      go_ret
      exact ⟨rfl, UA.out.then0 Vd.out⟩
  case pos =>
    subst e0
    obtain ⟨f1, f2, f3⟩ := HN.out rfl
    obtain ⟨hnn, hbn, hxn⟩ := lac_bd f1
    have hnb : 6 ≤ n ∧ n ≤ 24 := by omega
    have HNN := Lib.hid hnn
    clear hnn hbn
    have NS := Lib.hid f2
    have NM := Lib.hid f3
    have HXB := Lib.hid hxn
    have hne : ¬ n = 0 := by omega
    clear HN f1 f2 f3 hxn HLE
    by_cases e3 : E3 = 0
    · subst e3
      have NU2 : Hid (lacB n2 UL = true) := NU.out rfl
      clear NU
      go_wp2_with fail
      refine (iIsLacing_c n2 pu du UL _ (HA.out _ Vd.out).2.2.2.2.2.1 hul.out).mono ?_
      rintro e we ⟨rfl, hu⟩
      have VQ := Lib.hid (Vd.out.then0 hu)
      clear hu Vd
      rw [NU2.out]
      go_wp2_with fail
      go_loopw [19] (fun i wr => ∃ k : Nat, k ≤ xs.length ∧ i = .int .i64 k ∧ Hid (Upd [] W wr)) (fun i _ => xs.length - (intOf i).toNat)
      case atStart => exact ⟨0, by omega, rfl, VQ⟩
      case round =>
        clear VQ
        obtain ⟨k, hk, rfl, V⟩ := hrel
        by_cases hlt : k < xs.length
        · obtain ⟨b1, o1, x, rfl, hcx, hx⟩ := (HA.out _ V.out).1.get hlt
          obtain ⟨b2, o2, y, rfl, hcy, hy⟩ := (HA.out _ V.out).2.1.get (k := k) (by have := NS.out.1; omega)
          have hq := NS.out.2 k x y hlt hx.out hy.out
          have hq1 := hq.1
          have i1 : (0 : Int) ≤ (k : Int) := by omega
          have i2 : (k : Int) < (xs.length : Int) := by omega
          have i4 : (k : Int) < n := by have := HNN.out; omega
          have i3 : (k : Int) < (S.length : Int) := by have := NS.out.1; omega
          have q1 : -n.tdiv 2 ≤ y := by have h3 : (-n).tdiv 2 = -(n.tdiv 2) := Int.neg_tdiv ..; have := hq.2.1; omega
          have q1' := hq.2.1
          have q2 := hq.2.2
          have hxb : 0 ≤ x ∧ x ≤ 24 := by have := HXB.out x (mem_of_get hx.out); have := HNN.out; omega
          have hyb : -24 ≤ y ∧ y ≤ 24 := by
            have h2 : n.tdiv 2 = n / 2 := Int.tdiv_eq_ediv_of_nonneg (by omega)
            have h3 : (-n).tdiv 2 = -(n.tdiv 2) := Int.neg_tdiv ..
            omega
          have hw1 : IntKind.i64.wrap ((k : Int) + y) = (k : Int) + y := IntWalk.i64_in _ (by omega)
          have hw2 : IntKind.i64.wrap ((k : Int) + y - x) = (k : Int) + y - x := IntWalk.i64_in _ (by omega)
          have hw3 : IntKind.i64.wrap ((IntKind.i64.wrap (-n)).tdiv 2) = (-n).tdiv 2 := by
            rw [show IntKind.i64.wrap (-n) = -n from IntWalk.i64_in _ (by omega)]
            exact IntWalk.i64_in _ (by
              have h2 : n.tdiv 2 = n / 2 := Int.tdiv_eq_ediv_of_nonneg (by omega)
              have h3 : (-n).tdiv 2 = -(n.tdiv 2) := Int.neg_tdiv ..
              omega)
          have hw4 : IntKind.i64.wrap (n.tdiv 2) = n / 2 := by
            rw [Int.tdiv_eq_ediv_of_nonneg (by omega)]; exact IntWalk.i64_in _ (by omega)
          clear hq q1'
          go_wp2_with fail
          go_quiet (fail)
          go_wp2_with fail
          all_goals first | (exfalso; rename_i hx; first | omega | (rw [hw4] at hx; omega) | (simp at hx; omega); done) | skip
          go_roundw
          case rel => exact ⟨k + 1, by omega, by go_num, (V.out).drewN _⟩
          case measure => simp [intOf]; omega
        · have hge : ¬ (k : Int) < n := by have := HNN.out; omega
          go_wp2_with fail
          refine (iMirrorLacing_c _ pm dm M _ (HA.out _ V.out).2.2.2.1 hml.out).mono ?_
          rintro e w9 ⟨v, rfl, o, hu⟩
          obtain ⟨pb, db, rfl, ib, -⟩ := o.intsAt
          rw [NM.out.1, NM.out.2]
          rw [NM.out.2] at ib
          have V9 := Lib.hid (V.out.then0 hu)
          have HB := Lib.hid ib
          clear o ib hu
          go_wp2_with fail
          refine (likeInts_c _ _ _ _ xs _ HB.out (HA.out _ V9.out).1 (by omega)).mono ?_
          rintro e w10 ⟨rfl, hu⟩
          have V10 := Lib.hid (V9.out.then0 hu)
          clear hu
          go_wp2_with fail
          go_ret
          exact ⟨rfl, UA.out.then0 V10.out⟩
    · have VQ := Lib.hid Vd.out
      clear Vd
      go_wp2_with fail
      go_loopw [19] (fun i wr => ∃ k : Nat, k ≤ xs.length ∧ i = .int .i64 k ∧ Hid (Upd [] W wr)) (fun i _ => xs.length - (intOf i).toNat)
      case atStart => exact ⟨0, by omega, rfl, VQ⟩
      case round =>
        clear VQ
        obtain ⟨k, hk, rfl, V⟩ := hrel
        by_cases hlt : k < xs.length
        · obtain ⟨b1, o1, x, rfl, hcx, hx⟩ := (HA.out _ V.out).1.get hlt
          obtain ⟨b2, o2, y, rfl, hcy, hy⟩ := (HA.out _ V.out).2.1.get (k := k) (by have := NS.out.1; omega)
          have hq := NS.out.2 k x y hlt hx.out hy.out
          have hq1 := hq.1
          have i1 : (0 : Int) ≤ (k : Int) := by omega
          have i2 : (k : Int) < (xs.length : Int) := by omega
          have i4 : (k : Int) < n := by have := HNN.out; omega
          have i3 : (k : Int) < (S.length : Int) := by have := NS.out.1; omega
          have q1 : -n.tdiv 2 ≤ y := by have h3 : (-n).tdiv 2 = -(n.tdiv 2) := Int.neg_tdiv ..; have := hq.2.1; omega
          have q1' := hq.2.1
          have q2 := hq.2.2
          have hxb : 0 ≤ x ∧ x ≤ 24 := by have := HXB.out x (mem_of_get hx.out); have := HNN.out; omega
          have hyb : -24 ≤ y ∧ y ≤ 24 := by
            have h2 : n.tdiv 2 = n / 2 := Int.tdiv_eq_ediv_of_nonneg (by omega)
            have h3 : (-n).tdiv 2 = -(n.tdiv 2) := Int.neg_tdiv ..
            omega
          have hw1 : IntKind.i64.wrap ((k : Int) + y) = (k : Int) + y := IntWalk.i64_in _ (by omega)
          have hw2 : IntKind.i64.wrap ((k : Int) + y - x) = (k : Int) + y - x := IntWalk.i64_in _ (by omega)
          have hw3 : IntKind.i64.wrap ((IntKind.i64.wrap (-n)).tdiv 2) = (-n).tdiv 2 := by
            rw [show IntKind.i64.wrap (-n) = -n from IntWalk.i64_in _ (by omega)]
            exact IntWalk.i64_in _ (by
              have h2 : n.tdiv 2 = n / 2 := Int.tdiv_eq_ediv_of_nonneg (by omega)
              have h3 : (-n).tdiv 2 = -(n.tdiv 2) := Int.neg_tdiv ..
              omega)
          have hw4 : IntKind.i64.wrap (n.tdiv 2) = n / 2 := by
            rw [Int.tdiv_eq_ediv_of_nonneg (by omega)]; exact IntWalk.i64_in _ (by omega)
          clear hq q1'
          go_wp2_with fail
          go_quiet (fail)
          go_wp2_with fail
          all_goals first | (exfalso; rename_i hx; first | omega | (rw [hw4] at hx; omega) | (simp at hx; omega); done) | skip
          go_roundw
          case rel => exact ⟨k + 1, by omega, by go_num, (V.out).drewN _⟩
          case measure => simp [intOf]; omega
        · have hge : ¬ (k : Int) < n := by have := HNN.out; omega
          go_wp2_with fail
          refine (iMirrorLacing_c _ pm dm M _ (HA.out _ V.out).2.2.2.1 hml.out).mono ?_
          rintro e w9 ⟨v, rfl, o, hu⟩
          obtain ⟨pb, db, rfl, ib, -⟩ := o.intsAt
          rw [NM.out.1, NM.out.2]
          rw [NM.out.2] at ib
          have V9 := Lib.hid (V.out.then0 hu)
          have HB := Lib.hid ib
          clear o ib hu
          go_wp2_with fail
          refine (likeInts_c _ _ _ _ xs _ HB.out (HA.out _ V9.out).1 (by omega)).mono ?_
          rintro e w10 ⟨rfl, hu⟩
          have V10 := Lib.hid (V9.out.then0 hu)
          clear hu
          go_wp2_with fail
          go_ret
          exact ⟨rfl, UA.out.then0 V10.out⟩
end Go.Proofs.Ytdjdddepplaagaa
