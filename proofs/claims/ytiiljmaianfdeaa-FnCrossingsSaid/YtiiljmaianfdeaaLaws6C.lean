/- The law of the crossings. -/
import Derived.Deep.CutBlock
import Derived.Test.YtiiljmaianfdeaaLawD
import Derived.Test.YtiiljmaianfdeaaDraw6e
namespace Go.Proofs.Ytiiljmaianfdeaa
open Go.RowKit
set_option linter.unusedVariables false
set_option linter.unusedSimpArgs false

theorem swp_law {n k l : Int} {xs : List Int} (h : swpE n xs k l = 0) : lacB n (swpL n xs k l) = true ∧ swpE n (swpL n xs k l) k l = 0 ∧ swpL n (swpL n xs k l) k l = xs := by
  unfold swpE at h
  cases q1 : lacB n xs <;> cases q2 : swpB n k l <;> simp [q1, q2] at h
  have e1 : swpL n xs k l = swpF xs k.toNat l.toNat := by simp [swpL, q1, q2]
  simp only [swpB, Bool.and_eq_true] at q2
  obtain ⟨b1, b2⟩ := q2
  have c1 := inB_t b1
  have c2 := inB_t b2
  obtain ⟨g1, g2, -, -⟩ := lacB_t q1
  have hb := flB_bd g1
  have e2 : lacB n (swpF xs k.toNat l.toNat) = true := swp_lac q1 (by omega) (by omega)
  have e3 : swpB n k l = true := by simp only [swpB, Bool.and_eq_true]; exact ⟨b1, b2⟩
  rw [e1]
  refine ⟨e2, by simp [swpE, e2, e3], ?_⟩
  simp only [swpL, e2, e3, Bool.and_self, if_true]
  exact swp_back (by omega) (by omega)
theorem mvE_law {n : Int} {a b : List Int} (h : mvE n a b = 0) : (a.length : Int) = n ∧ (b.length : Int) = n ∧ ∀ (j : Nat) (x y : Int), a[j]? = some x → b[j]? = some y → hasB (mvL n a b) (j : Int) = decide (x ≠ y) := by
  unfold mvE at h
  cases q1 : lacB n a <;> cases q2 : lacB n b <;> simp [q1, q2] at h
  refine ⟨(lacB_t q1).2.1, (lacB_t q2).2.1, fun j x y hx hy => ?_⟩
  have e1 : mvL n a b = mvTo a b a.length := by simp [mvL, q1, q2]
  have hj : j < a.length := by
    by_cases e : j < a.length
    · exact e
    · rw [List.getElem?_eq_none (by omega)] at hx; cases hx
  rw [e1, mv_law a b a.length j hj, getD_of hx, getD_of hy]
/-- All of the first k places cross as the first does. -/
def allS (xs : List Int) (k : Nat) : Bool := (List.range k).all fun j => crF xs j == crF xs 0
theorem allS_step (xs : List Int) (k : Nat) : allS xs (k + 1) = (allS xs k && crF xs k == crF xs 0) := by
  simp [allS, List.range_succ]
theorem cr_law {n p : Int} {xs : List Int} (h : codeL n xs p = 0) : lacB n xs = true ∧ (∀ k : Nat, k < xs.length → codeL n xs k = 0 ∧ crV n xs k = (crF xs k : Int)) ∧ evE n xs = (if allS xs xs.length then 0 else 5) ∧ rotL n xs 0 = xs ∧ codeL n xs 0 = 0 ∧ crV n xs 0 = (crF xs 0 : Int) := by
  unfold codeL at h
  cases q1 : lacB n xs <;> cases q2 : inB p 0 (n - 1) <;> simp [q1, q2] at h
  obtain ⟨g1, g2, -, -⟩ := lacB_t q1
  have hb := flB_bd g1
  have key : ∀ k : Nat, k < xs.length → codeL n xs k = 0 ∧ crV n xs k = (crF xs k : Int) := fun k hk => by
    have e : inB (k : Int) 0 (n - 1) = true := inB_mk (by omega)
    simp [codeL, crV, q1, e]
  have k0 := key 0 (by omega)
  refine ⟨rfl, key, ?_, ?_, k0.1, k0.2⟩
  · simp only [evE, q1, if_true]; rfl
  · have e : inB 0 0 (n - 1) = true := inB_mk (by omega)
    simp only [rotL, q1, e, Bool.and_self, if_true]
    exact rot_zero q1
theorem sumN_step (f : Nat → Nat) (k : Nat) : sumN f (k + 1) = sumN f k + f k := rfl
theorem sumN_bd {xs : List Int} (k : Nat) (hk : k ≤ xs.length) (hl : xs.length ≤ 30) : sumN (crF xs) k ≤ 900 := by
  have h : ∀ k, sumN (crF xs) k ≤ 30 * k := by
    intro k
    induction k with
    | zero => exact Nat.le_refl _
    | succ k ih => have := crF_le xs k; rw [sumN]; omega
  have := h k; omega
theorem swpL_le (n : Int) (xs : List Int) (k l : Int) : (swpL n xs k l).length ≤ xs.length := by unfold swpL; split; rw [swpF_length]; exact Nat.le_refl _; simp
theorem mvL_le' (n : Int) (a b : List Int) : (mvL n a b).length ≤ a.length := by unfold mvL; split; exact mvTo_le _ _ _; simp
set_option maxRecDepth 20000 in
set_option maxHeartbeats 6400000 in
theorem FnCrossings_walk (a : Option Addr) (c : Nat) (bs : List Int) (w : World) (h : U8At w a bs) : Calls Try.prog 3 #[.slice a bs.length c] w (RetT w) := by
  have HC := Lib.hid h
  clear h
  by_cases hl : bs.length ≤ 4096
  case neg =>
    go_enter Try.func3, Try.ntmps3
    go_wp2_with (go_at_call 6; refine (big_x _ _ _ _ hl).mono ?_; rintro e w' ⟨rfl, rfl⟩)
    go_ret
    exact ⟨rfl, Upd.refl _⟩
  go_enter Try.func3, Try.ntmps3
  go_wp2_with (go_at_call 6; refine (big_y _ _ _ _ hl).mono ?_; rintro e w' ⟨rfl, rfl⟩)
  refine (DrawCrossingsOf_c a c bs _ HC.out hl).mono ?_
  rintro e w1 ⟨n, p, xs, d, pl, rfl, hi1, ⟨lx1, lx2, -⟩, lk, hu⟩
  have HX := Lib.hid hi1
  have U := Lib.hid hu
  replace HC := Lib.hid (HC.out.kept0 hu)
  clear hi1 hu
  go_wp2_with fail
  refine (iCrossingsOf_c n p d xs pl _ HX.out (by omega)).mono ?_
  rintro e w2 ⟨rfl, hu⟩
  replace U := Lib.hid (U.out.then0 hu)
  replace HC := Lib.hid (HC.out.kept0 hu)
  replace HX := Lib.hid (HX.out.kept0 hu)
  clear hu
  go_wp2_with fail
  refine (sCrossingsOf_c n p d xs pl _ HX.out (by omega) lk).mono ?_
  rintro e w3 ⟨rfl, hu⟩
  replace U := Lib.hid (U.out.then0 hu)
  replace HC := Lib.hid (HC.out.kept0 hu)
  replace HX := Lib.hid (HX.out.kept0 hu)
  clear hu
  have HCR := Lib.hid (@cr_law n pl xs)
  clear lk
  obtain ⟨V1, hV1⟩ : ∃ T, crV n xs pl = T := ⟨_, rfl⟩
  obtain ⟨E1, hE1⟩ : ∃ T, codeL n xs pl = T := ⟨_, rfl⟩
  rw [hE1] at HCR
  rw [hV1, hE1]
  clear hV1 hE1
  go_wp2_with fail
  refine (DrawEvenCrossings_c a c bs _ HC.out hl).mono ?_
  rintro e w4 ⟨n2, p2, x2, d2, rfl, hi, ⟨lz1, lz2⟩, lk, hu⟩
  have HX2 := Lib.hid hi
  clear hi
  replace U := Lib.hid (U.out.then0 hu)
  replace HC := Lib.hid (HC.out.kept0 hu)
  replace HX := Lib.hid (HX.out.kept0 hu)
  clear hu
  go_wp2_with fail
  refine (iEvenCrossings_c n2 p2 d2 x2 _ HX2.out (by omega)).mono ?_
  rintro e w5 ⟨rfl, hu⟩
  replace U := Lib.hid (U.out.then0 hu)
  replace HC := Lib.hid (HC.out.kept0 hu)
  replace HX := Lib.hid (HX.out.kept0 hu)
  replace HX2 := Lib.hid (HX2.out.kept0 hu)
  clear hu
  go_wp2_with fail
  refine (sEvenCrossings_c n2 p2 d2 x2 _ HX2.out (by omega) lk).mono ?_
  rintro e w6 ⟨rfl, hu⟩
  replace U := Lib.hid (U.out.then0 hu)
  replace HC := Lib.hid (HC.out.kept0 hu)
  replace HX := Lib.hid (HX.out.kept0 hu)
  replace HX2 := Lib.hid (HX2.out.kept0 hu)
  clear hu
  generalize evV n2 x2 = V2
  generalize evE n2 x2 = E2
  clear HX2 lz1 lz2 lk
  go_wp2_with fail
  refine (DrawMovesBetween_c a c bs _ HC.out hl).mono ?_
  rintro e w7 ⟨y, pa, at_, da, pb, bt, db, rfl, hi, hi2, ⟨la1, la2, la3⟩, ⟨lk1, lk2⟩, hu⟩
  have HA := Lib.hid hi
  have HB := Lib.hid hi2
  clear hi hi2
  replace U := Lib.hid (U.out.then0 hu)
  replace HC := Lib.hid (HC.out.kept0 hu)
  replace HX := Lib.hid (HX.out.kept0 hu)
  clear hu
  go_wp2_with fail
  refine (iMovesBetween_c y pa pb da db at_ bt _ HA.out HB.out (by omega) (by omega)).mono ?_
  rintro e w8 ⟨v, rfl, o, hu⟩
  obtain ⟨pm, dm, rfl, ir, -⟩ := o.intsAt
  have HM := Lib.hid ir
  replace U := Lib.hid (U.out.then0 hu)
  replace HC := Lib.hid (HC.out.kept0 hu)
  replace HX := Lib.hid (HX.out.kept0 hu)
  replace HA := Lib.hid (HA.out.kept0 hu)
  replace HB := Lib.hid (HB.out.kept0 hu)
  clear o ir hu
  go_wp2_with fail
  refine (sMovesBetween_c y pa pb da db at_ bt _ HA.out HB.out (by omega) (by omega) lk1 lk2).mono ?_
  rintro e w9 ⟨v, rfl, o, hu⟩
  obtain ⟨pn, dn, rfl, ir, -⟩ := o.intsAt
  have HN := Lib.hid ir
  replace U := Lib.hid (U.out.then0 hu)
  replace HC := Lib.hid (HC.out.kept0 hu)
  replace HX := Lib.hid (HX.out.kept0 hu)
  replace HA := Lib.hid (HA.out.kept0 hu)
  replace HB := Lib.hid (HB.out.kept0 hu)
  replace HM := Lib.hid (HM.out.kept0 hu)
  clear o ir hu
  have HMV := Lib.hid (@mvE_law y at_ bt)
  have hml := Lib.hid (mvL_le' y at_ bt)
  clear lk1 lk2
  obtain ⟨M, hM⟩ : ∃ T, mvL y at_ bt = T := ⟨_, rfl⟩
  obtain ⟨E3, hE3⟩ : ∃ T, mvE y at_ bt = T := ⟨_, rfl⟩
  rw [hM] at HM HN HMV hml ⊢
  rw [hE3] at HMV ⊢
  clear hM hE3
  go_wp2_with fail
  refine (DrawSwapSpokes_c a c bs _ HC.out hl).mono ?_
  rintro e w10 ⟨n4, p4, q, d4, k, l, rfl, hi, ⟨lq1, lq2⟩, lk, hu⟩
  have HQ := Lib.hid hi
  clear hi
  replace U := Lib.hid (U.out.then0 hu)
  replace HX := Lib.hid (HX.out.kept0 hu)
  replace HA := Lib.hid (HA.out.kept0 hu)
  replace HB := Lib.hid (HB.out.kept0 hu)
  replace HM := Lib.hid (HM.out.kept0 hu)
  replace HN := Lib.hid (HN.out.kept0 hu)
  clear hu
  clear HC hl
  go_wp2_with fail
  refine (iSwapSpokes_c n4 p4 d4 q k l _ HQ.out (by omega)).mono ?_
  rintro e w11 ⟨v, rfl, o, hu⟩
  obtain ⟨ps, ds, rfl, ir, -⟩ := o.intsAt
  have HS := Lib.hid ir
  replace U := Lib.hid (U.out.then0 hu)
  replace HX := Lib.hid (HX.out.kept0 hu)
  replace HA := Lib.hid (HA.out.kept0 hu)
  replace HB := Lib.hid (HB.out.kept0 hu)
  replace HM := Lib.hid (HM.out.kept0 hu)
  replace HN := Lib.hid (HN.out.kept0 hu)
  replace HQ := Lib.hid (HQ.out.kept0 hu)
  clear o ir hu
  go_wp2_with fail
  refine (sSwapSpokes_c n4 p4 d4 q k l _ HQ.out (by omega) lk).mono ?_
  rintro e w12 ⟨v, rfl, o, hu⟩
  obtain ⟨pt, dt, rfl, ir, -⟩ := o.intsAt
  have HT := Lib.hid ir
  replace U := Lib.hid (U.out.then0 hu)
  replace HX := Lib.hid (HX.out.kept0 hu)
  replace HA := Lib.hid (HA.out.kept0 hu)
  replace HB := Lib.hid (HB.out.kept0 hu)
  replace HM := Lib.hid (HM.out.kept0 hu)
  replace HN := Lib.hid (HN.out.kept0 hu)
  replace HQ := Lib.hid (HQ.out.kept0 hu)
  replace HS := Lib.hid (HS.out.kept0 hu)
  clear o ir hu
  have HSW := Lib.hid (@swp_law n4 k l q)
  have hsl := Lib.hid (swpL_le n4 q k l)
  clear lk
  obtain ⟨S, hS⟩ : ∃ T, swpL n4 q k l = T := ⟨_, rfl⟩
  obtain ⟨E5, hE5⟩ : ∃ T, swpE n4 q k l = T := ⟨_, rfl⟩
  rw [hS] at HS HT HSW hsl ⊢
  rw [hE5] at HSW ⊢
  clear hS hE5
  go_wp2_with fail
  refine (likeInts_c _ _ _ _ M _ HM.out HN.out (by have := hml.out; omega)).mono ?_
  rintro e w13 ⟨rfl, hu⟩
  replace U := Lib.hid (U.out.then0 hu)
  replace HX := Lib.hid (HX.out.kept0 hu)
  replace HA := Lib.hid (HA.out.kept0 hu)
  replace HB := Lib.hid (HB.out.kept0 hu)
  replace HM := Lib.hid (HM.out.kept0 hu)
  replace HQ := Lib.hid (HQ.out.kept0 hu)
  replace HS := Lib.hid (HS.out.kept0 hu)
  replace HT := Lib.hid (HT.out.kept0 hu)
  clear hu
  go_wp2_with fail
  refine (likeInts_c _ _ _ _ S _ HS.out HT.out (by have := hsl.out; omega)).mono ?_
  rintro e w14 ⟨rfl, hu⟩
  replace U := Lib.hid (U.out.then0 hu)
  replace HX := Lib.hid (HX.out.kept0 hu)
  replace HA := Lib.hid (HA.out.kept0 hu)
  replace HB := Lib.hid (HB.out.kept0 hu)
  replace HM := Lib.hid (HM.out.kept0 hu)
  replace HQ := Lib.hid (HQ.out.kept0 hu)
  replace HS := Lib.hid (HS.out.kept0 hu)
  clear hu
  clear HN HT
  have HALL : Hid (Upd [] w w14 ∧ IntsAt w14 p xs ∧ IntsAt w14 pa at_ ∧ IntsAt w14 pb bt ∧ IntsAt w14 pm M) := ⟨U.out, HX.out, HA.out, HB.out, HM.out⟩
  clear HX HA HB HM
  have U0 : Hid (Upd [] w14 w14) := Upd.refl _
  go_upto_if 168 with fail
  go_cut [] from 167 (fun wx => Hid (Upd [] w14 wx))
  case first =>
    by_cases e5 : E5 = 0
    · subst e5
      obtain ⟨f1, f2, f3⟩ := HSW.out rfl
      have F1 := Lib.hid f1
      have F2 := Lib.hid f2
      have F3 := Lib.hid f3
      clear f1 f2 f3 HSW HALL HCR HMV
      go_wp2_with fail
      refine (iSwapSpokes_c n4 ps ds S k l _ HS.out (by have := hsl.out; omega)).mono ?_
      rintro e w15 ⟨v, rfl, o, hu⟩
      obtain ⟨pu, du, rfl, ir, -⟩ := o.intsAt
      have HU := Lib.hid ir
      replace U0 := Lib.hid (U0.out.then0 hu)
      replace HQ := Lib.hid (HQ.out.kept0 hu)
      replace HS := Lib.hid (HS.out.kept0 hu)
      clear o ir hu
      rw [F2.out]
      rw [F3.out] at HU ⊢
      go_wp2_with fail
      refine (likeInts_c _ _ _ _ q _ HU.out HQ.out (by omega)).mono ?_
      rintro e w16 ⟨rfl, hu⟩
      replace U0 := Lib.hid (U0.out.then0 hu)
      replace HS := Lib.hid (HS.out.kept0 hu)
      clear hu
      go_wp2_with fail
      refine (iIsLacing_c n4 ps ds S _ HS.out (by have := hsl.out; omega)).mono ?_
      rintro e w17 ⟨rfl, hu⟩
      replace U0 := Lib.hid (U0.out.then0 hu)
      clear hu
      rw [F1.out]
      go_wp2_with fail
      go_meet
      case rel => exact U0
    · go_wp2_with fail
      go_meet
      case rel => exact U0
  case rest =>
    clear HSW hsl HQ HS U0 lq1 lq2 U
    have U0 := hcut
    clear hcut
    go_upto_block 0 with fail
    go_cut [] from 191 (fun wx => Hid (Upd [] w14 wx))
    case first =>
      clear HCR lx1 lx2
      by_cases e3 : E3 = 0
      · subst e3
        obtain ⟨f1, f2, f3⟩ := HMV.out rfl
        have F1 := Lib.hid f1
        have F2 := Lib.hid f2
        have F3 := Lib.hid f3
        clear f1 f2 f3 HMV
        go_wp2_with fail
        go_loopw [33] (fun i wr => ∃ k : Nat, k ≤ at_.length ∧ i = .int .i64 k ∧ Hid (Upd [] w14 wr)) (fun i _ => at_.length - (intOf i).toNat)
        case atStart => exact ⟨0, by omega, rfl, U0⟩
        case round =>
          clear U0
          obtain ⟨k, hk, rfl, V⟩ := hrel
          obtain ⟨w15, ew15⟩ : ∃ x : World, x = wr := ⟨_, rfl⟩
          subst ew15
          by_cases hlt : k < at_.length
          · obtain ⟨b1, o1, x, rfl, hcx, hx⟩ := (HALL.out.2.2.1.kept0 V.out).get hlt
            obtain ⟨b2, o2, z, rfl, hcz, hz⟩ := (HALL.out.2.2.2.1.kept0 V.out).get (k := k) (by have := F1.out; have := F2.out; omega)
            have HMk : Hid (∀ w', Upd [] w15 w' → IntsAt w' pm M) := fun w' u => (HALL.out.2.2.2.2.kept0 V.out).kept0 u
            have hq := F3.out k x z hx.out hz.out
            have i1 : (0 : Int) ≤ (k : Int) := by omega
            have i2 : (k : Int) < (at_.length : Int) := by omega
            have i3 : (k : Int) < (bt.length : Int) := by have := F1.out; have := F2.out; omega
            have i4 : (k : Int) < y := by have := F1.out; omega
            have hmm : M.length ≤ 1048576 := by have := hml.out; omega
            clear hx hz HALL
            by_cases hxz : x = z
            · subst hxz
              have hM : Hid (hasB M (k : Int) = false) := by show _ = _; rw [hq]; simp
              clear hq
              go_wp2_with fail
              go_quiet ((go_at_call 21; exact quiet0 ((hasInt_c _ _ _ _ _ (HMk.out _ ((Upd.refl _).drewN _)) hmm).mono fun _ _ h => by rw [hM.out] at h; exact h)))
              go_wp2_with fail
              go_roundw
              case rel => exact ⟨k + 1, by omega, by go_num, (V.out).drewN _⟩
              case measure => simp [intOf]; omega
            · have hM : Hid (hasB M (k : Int) = true) := by show _ = _; rw [hq]; simp [hxz]
              have hb : (x == z) = false := beq_eq_false_iff_ne.2 hxz
              have hb2 : (x != z) = true := by simp [bne, hb]
              clear hq
              go_wp2_with fail
              go_quiet ((go_at_call 21; exact quiet0 ((hasInt_c _ _ _ _ _ (HMk.out _ ((Upd.refl _).drewN _)) hmm).mono fun _ _ h => by rw [hM.out] at h; exact h)))
              go_wp2_with fail
              go_roundw
              case rel => exact ⟨k + 1, by omega, by go_num, (V.out).drewN _⟩
              case measure => simp [intOf]; omega
          · have i4 : ¬ (k : Int) < y := by have := F1.out; omega
            clear HALL
            go_wp2_with fail
            go_meet
            case rel => exact V
      · clear HMV HALL
        go_wp2_with fail
        go_loopw [33] (fun i wr => i = .int .i64 0 ∧ Hid (Upd [] w14 wr)) (fun _ _ => 0)
        case atStart => exact ⟨rfl, U0⟩
        case round =>
          clear U0
          obtain ⟨rfl, V⟩ := hrel
          go_wp2_with fail
          go_meet
          case rel => exact V
    case rest =>
      clear U0 HMV hml la1 la2 la3
      have U1 := hcut
      clear hcut
      by_cases e1 : E1 = 0
      case neg =>
        clear HCR
        go_wp2_with fail
        go_ret
        exact ⟨rfl, HALL.out.1.then0 U1.out⟩
      case pos =>
        subst e1
        obtain ⟨f1, f2, f3, f4, f5, f6⟩ := HCR.out rfl
        have F2 := Lib.hid f2
        have F3 := Lib.hid f3
        have F4 := Lib.hid f4
        have F5 := Lib.hid f5
        have F6 := Lib.hid f6
        obtain ⟨hnn, hnb, -⟩ := lac_bd f1
        have HNN := Lib.hid hnn
        clear HCR f1 f2 f3 f4 f5 f6 hnn
        have HX : Hid (∀ w', Upd [] w14 w' → IntsAt w' p xs) := fun w' u => HALL.out.2.1.kept0 u
        have U := Lib.hid HALL.out.1
        clear HALL
        go_wp2_with fail
        refine (iCrossingsOf_c n p d xs 0 _ (HX.out _ U1.out) (by omega)).mono ?_
        rintro e w15 ⟨rfl, hu⟩
        have U2 := Lib.hid (U1.out.then0 hu)
        clear hu U1
        rw [F5.out, F6.out]
        obtain ⟨C0, hC0⟩ : ∃ T, crF xs 0 = T := ⟨_, rfl⟩
        rw [hC0]
        have HC0 := Lib.hid hC0
        clear hC0
        go_wp2_with fail
        go_loopw [34, 35, 38] (fun t s i wr => ∃ (k T : Nat) (b : Bool), k ≤ xs.length ∧ i = .int .i64 k ∧ t = .int .i64 T ∧ s = .bool b ∧ Hid (sumN (crF xs) k = T) ∧ Hid (allS xs k = b) ∧ Hid (Upd [] w14 wr)) (fun _ _ i _ => xs.length - (intOf i).toNat)
        case atStart => exact ⟨0, 0, true, by omega, rfl, rfl, rfl, rfl, rfl, U2⟩
        case round =>
          clear U2
          obtain ⟨k, T, b, hk, rfl, rfl, rfl, HT, HB, V⟩ := hrel
          by_cases hlt : k < xs.length
          · have i4 : (k : Int) < n := by have := HNN.out; omega
            go_wp2_with fail
            refine (iCrossingsOf_c n p d xs (k : Int) _ (HX.out _ V.out) (by omega)).mono ?_
            rintro e w16 ⟨rfl, hu⟩
            have V2 := Lib.hid (V.out.then0 hu)
            clear hu V
            rw [(F2.out k hlt).1, (F2.out k hlt).2]
            obtain ⟨C, hC⟩ : ∃ T, crF xs k = T := ⟨_, rfl⟩
            rw [hC]
            have hT2 : Hid (sumN (crF xs) (k + 1) = T + C) := by show _ = _; rw [sumN_step, HT.out, hC]
            have hTb : T + C ≤ 900 := by rw [← hT2.out]; exact sumN_bd _ hlt lx2
            have hB2 : Hid (allS xs (k + 1) = (b && (C == C0))) := by show _ = _; rw [allS_step, HB.out, hC, HC0.out]
            have hw1 : IntKind.i64.wrap ((T : Int) + (C : Int)) = ((T + C : Nat) : Int) := IntWalk.i64_in _ (by omega)
            clear hC HT HB
            by_cases hcc : C = C0
            · have hB3 : Hid (allS xs (k + 1) = b) := by show _ = _; rw [hB2.out, hcc]; simp
              have hb : ((C : Int) == (C0 : Int)) = true := by rw [hcc]; simp
              have hcc' : (C : Int) = (C0 : Int) := by omega
              clear hB2 hcc
              cases b
              · go_wp2_with fail
                go_roundw
                case rel => exact ⟨k + 1, T + C, false, by omega, by go_num, by go_num, rfl, hT2, hB3, V2⟩
                case measure => simp [intOf]; omega
              · go_wp2_with fail
                go_roundw
                case rel => exact ⟨k + 1, T + C, true, by omega, by go_num, by go_num, rfl, hT2, hB3, V2⟩
                case measure => simp [intOf]; omega
            · have hB3 : Hid (allS xs (k + 1) = false) := by show _ = _; rw [hB2.out]; simp [hcc]
              have hb : ((C : Int) == (C0 : Int)) = false := by rw [beq_eq_false_iff_ne]; omega
              have hcc' : ¬ (C : Int) = (C0 : Int) := by omega
              clear hB2
              cases b
              · go_wp2_with fail
                go_roundw
                case rel => exact ⟨k + 1, T + C, false, by omega, by go_num, by go_num, rfl, hT2, hB3, V2⟩
                case measure => simp [intOf]; omega
              · go_wp2_with fail
                go_roundw
                case rel => exact ⟨k + 1, T + C, false, by omega, by go_num, by go_num, rfl, hT2, hB3, V2⟩
                case measure => simp [intOf]; omega
          · obtain rfl : k = xs.length := by omega
            have i4 : ¬ (xs.length : Int) < n := by have := HNN.out; omega
            have hT2 : T % 2 = 0 := by rw [← HT.out]; exact cr_even xs
            have hev : Hid (evE n xs = if b then 0 else 5) := by show _ = _; rw [F3.out, HB.out]
            clear HT HB F2 F3 HNN
            have hT3 : (T : Int) % 2 = 0 := by omega
            go_wp2_with fail
            refine (iEvenCrossings_c n p d xs _ (HX.out _ V.out) (by omega)).mono ?_
            rintro e w16 ⟨rfl, hu⟩
            have V2 := Lib.hid (V.out.then0 hu)
            clear hu V
            obtain ⟨E6, hE6⟩ : ∃ T, evE n xs = T := ⟨_, rfl⟩
            rw [hE6]
            have HE6 : Hid (E6 = if b then 0 else 5) := by show _ = _; rw [← hE6]; exact hev.out
            clear hev hE6
            generalize evV n xs = ev
            cases b
            all_goals
              first | (obtain rfl : E6 = 5 := HE6.out) | (obtain rfl : E6 = 0 := HE6.out)
              go_wp2_with fail
              refine (iRotateLacing_c n p d xs 0 _ (HX.out _ V2.out) (by omega)).mono ?_
              rintro e w17 ⟨v, rfl, o, hu⟩
              obtain ⟨pr, dr, rfl, ir, -⟩ := o.intsAt
              have V3 := Lib.hid (V2.out.then0 hu)
              have HR := Lib.hid ir
              clear o ir hu V2
              rw [F4.out, F5.out]
              rw [F4.out] at HR
              have HK : Hid (IntsAt w17 p xs) := HX.out _ V3.out
              clear HX F4 F5 F6
              go_wp2_with fail
              refine (likeInts_c _ _ _ _ xs _ HR.out HK.out (by omega)).mono ?_
              rintro e w18 ⟨rfl, hu⟩
              have V4 := Lib.hid (V3.out.then0 hu)
              clear hu
              go_wp2_with fail
              go_ret
              exact ⟨rfl, U.out.then0 V4.out⟩
end Go.Proofs.Ytiiljmaianfdeaa
