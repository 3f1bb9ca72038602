/- The laws of chapter 7 that draw: nipples. -/
import Derived.Test.YtdjdddepplaagaaLawD
import Derived.Test.YtdjdddepplaagaaTurnAll
import Derived.Deep.RegionWith
namespace Go.Proofs.Ytdjdddepplaagaa
open Go.RowKit
set_option linter.unusedVariables false
set_option linter.unusedSimpArgs false

theorem ta_yes {xs s ts : List Int} (h : taE xs s ts = 0) : (areB xs 0 3000 4 48 = true ∧ stiffB s = true) ∧ tsB xs ts = true ∧ areB (turnF xs s ts) 0 3000 4 48 = true ∧ taL xs s ts = turnF xs s ts := by
  unfold taE at h
  cases q1 : tfmB2 xs s <;> cases q2 : tsB xs ts <;> cases q3 : taB xs s ts <;> simp [q1, q2, q3] at h
  refine ⟨?_, rfl, q3, by simp [taL, q1, q2, q3]⟩
  simpa [tfmB2] using q1
theorem nip_law {xs s ts : List Int} (h : taE xs s ts = 0) :
    taE (taL xs s ts) s (ts.map (- ·)) = 0 ∧ taL (taL xs s ts) s (ts.map (- ·)) = xs ∧ sumE xs = 0 ∧ sumE (taL xs s ts) = 0 ∧ sumV (taL xs s ts) - sumV xs = isum ts * gainF s ∧ (taL xs s ts).length = xs.length := by
  obtain ⟨⟨h1, h2⟩, h3, h4, h5⟩ := ta_yes h
  have hb := tb_all h1 h2 h3
  have e1 : tsB (turnF xs s ts) (ts.map (- ·)) = true := by
    simp only [tsB, Bool.and_eq_true, decide_eq_true_eq, List.length_map, turnF_length]
    refine ⟨hb.2.2.2.1, allB_mk fun x hx => ?_⟩
    obtain ⟨y, hy, rfl⟩ := List.mem_map.1 hx
    have := hb.2.2.1 y hy; omega
  have e2 : taB (turnF xs s ts) s (ts.map (- ·)) = true := by rw [taB, turnF_undo]; exact h1
  rw [h5]
  refine ⟨by simp [taE, tfmB2, h4, h2, e1, e2], by simp [taL, tfmB2, h4, h2, e1, e2, turnF_undo], by simp [sumE, h1], by simp [sumE, h4], ?_, turnF_length ..⟩
  simp only [sumV, h4, h1, if_true]
  rw [isum_turnF _ _ _ (by omega)]; omega
theorem map_take_step {ts : List Int} {k : Nat} {x : Int} (h : ts[k]? = some x) : (ts.take (k + 1)).map (- ·) = (ts.take k).map (- ·) ++ [-x] := by
  rw [List.take_add_one, h]; simp
theorem likeInts_d (a b : Option Addr) (c d : Nat) (xs : List Int) (w : World) (h : IntsAt w a xs) (h2 : IntsAt w b xs) (hl : xs.length ≤ 1048576) :
    Calls Try.prog 15 #[.slice a xs.length c, .slice b xs.length d] w fun e w' => e = .returned (.bool true) ∧ Dr w w' := by
  have H := Lib.hid h; clear h
  have H2 := Lib.hid h2; clear h2
  go_enter Try.func15, Try.ntmps15
  go_wp2
  go_loopw [5] (fun i wr => ∃ k : Nat, k ≤ xs.length ∧ i = .int .i64 k ∧ Hid (Dr w wr)) (fun i _ => xs.length - (intOf i).toNat)
  case atStart => exact ⟨0, by omega, rfl, Dr.refl w⟩
  case round =>
    obtain ⟨k, hk, rfl, HU⟩ := hrel
    by_cases hlt : k < xs.length
    · obtain ⟨ab, ao, x, rfl, hc, hx⟩ := (H.out.kept0 HU.out.upd).get hlt
      obtain ⟨bb, bo, y, rfl, hd, hy⟩ := (H2.out.kept0 HU.out.upd).get hlt
      obtain rfl : x = y := by have := hx.out; rw [hy.out] at this; simpa using this.symm
      have i1 : (0 : Int) ≤ (k : Int) := by omega
      have i2 : (k : Int) < (xs.length : Int) := by omega
      go_wp2
      go_quiet (fail)
      go_wp2
      go_roundw
      case rel => exact ⟨k + 1, by omega, by go_num, (HU.out).drewN _⟩
      case measure => simp [intOf]; omega
    · obtain rfl : k = xs.length := by omega
      go_wp2
      go_ret
      exact ⟨rfl, HU.out⟩
set_option maxRecDepth 20000 in
set_option maxHeartbeats 3200000 in
theorem FnNipples_walk (a : Option Addr) (c : Nat) (bs : List Int) (w : World) (h : U8At w a bs) : Calls Try.prog 7 #[.slice a bs.length c] w (RetT w) := by
  have HC := Lib.hid h
  clear h
  by_cases hl : bs.length ≤ 4096
  case neg =>
    go_enter Try.func7, Try.ntmps7
    go_wp2_with (go_at_call 11; refine (big_x _ _ _ _ hl).mono ?_; rintro e w' ⟨rfl, rfl⟩)
    go_ret
    exact ⟨rfl, Upd.refl _⟩
  go_enter Try.func7, Try.ntmps7
  go_wp2_with (go_at_call 11; refine (big_y _ _ _ _ hl).mono ?_; rintro e w' ⟨rfl, rfl⟩)
  refine (DrawTurnAll_c a c bs _ HC.out hl).mono ?_
  rintro e w1 ⟨p, xs, d, q, ys, f, r, ts, g, rfl, hi1, hi2, hi3, ⟨l1, l2, l3⟩, ⟨k1, k2, k3⟩, hu⟩
  have HX : Hid (∀ w', Upd [] w1 w' → IntsAt w' p xs ∧ IntsAt w' q ys ∧ IntsAt w' r ts) := fun w' u => ⟨hi1.kept0 u, hi2.kept0 u, hi3.kept0 u⟩
  have U := Lib.hid hu
  clear hi1 hi2 hi3 hu
  go_wp2_with fail
  refine (iTurnAll_c p q r d f g xs ys ts _ (HX.out _ (Upd.refl w1)).1 (HX.out _ (Upd.refl w1)).2.1 (HX.out _ (Upd.refl w1)).2.2 (by omega) (by omega) (by omega) k2).mono ?_
  rintro e w2 ⟨v, rfl, o, hu⟩
  obtain ⟨pt, dt, rfl, io, -⟩ := o.intsAt
  have V2 := Lib.hid hu
  have HT : Hid (∀ w', Upd [] w2 w' → IntsAt w' pt (taL xs ys ts)) := fun w' u => io.kept0 u
  clear o io hu
  go_wp2_with fail
  refine (sTurnAll_c p q r d f g xs ys ts _ (HX.out _ V2.out).1 (HX.out _ V2.out).2.1 (HX.out _ V2.out).2.2 (by omega) (by omega) (by omega)).mono ?_
  rintro e w3 ⟨v, rfl, o, hu⟩
  obtain ⟨pm, dm, rfl, io, -⟩ := o.intsAt
  have V3 := Lib.hid (V2.out.then0 hu)
  have T3 := Lib.hid hu
  have HM : Hid (∀ w', Upd [] w3 w' → IntsAt w' pm (taL xs ys ts)) := fun w' u => io.kept0 u
  clear o io hu
  go_wp2_with fail
  refine (iSumOfTensions_c p d xs _ (HX.out _ V3.out).1 (by omega)).mono ?_
  rintro e w' ⟨rfl, rfl⟩
  go_wp2_with fail
  refine (sSumOfTensions_c p d xs _ (HX.out _ V3.out).1 (by omega)).mono ?_
  rintro e w' ⟨rfl, rfl⟩
  go_wp2_with fail
  refine (DrawIsStiffness_c a c bs _ (HC.out.kept0 (U.out.then0 V3.out)) hl).mono ?_
  rintro e w4 ⟨px, zs, dx, rfl, hi1, l4, k4, hu⟩
  have HA : Hid (∀ w', Upd [] w4 w' → IntsAt w' p xs ∧ IntsAt w' q ys ∧ IntsAt w' r ts ∧ IntsAt w' pt (taL xs ys ts) ∧ IntsAt w' pm (taL xs ys ts) ∧ IntsAt w' px zs) := fun w' u =>
    ⟨(HX.out _ ((V3.out.then0 hu).then0 u)).1, (HX.out _ ((V3.out.then0 hu).then0 u)).2.1, (HX.out _ ((V3.out.then0 hu).then0 u)).2.2, HT.out _ ((T3.out.then0 hu).then0 u), HM.out _ (hu.then0 u), hi1.kept0 u⟩
  have UA := Lib.hid ((U.out.then0 V3.out).then0 hu)
  clear HX HT HM U V2 V3 T3 hi1 hu
  have htl : Hid ((taL xs ys ts).length ≤ 1048576) := by
    show _ ≤ _
    unfold taL
    have := turnF_length xs ys ts
    split <;> (try split) <;> (try split) <;> simp <;> omega
  have HN := Lib.hid (@nip_law xs ys ts)
  have HBD : Hid (taE xs ys ts = 0 → (AllLe 100 ts ∧ ts.length = xs.length ∧ (1 ≤ (xs.length : Int) ∧ (xs.length : Int) ≤ 48)) ∧ stiffB ys = true) := fun e => by
    obtain ⟨⟨h1, h2⟩, h3, h4, h5⟩ := ta_yes e
    have hb := tb_all h1 h2 h3
    exact ⟨⟨hb.2.2.1, hb.2.2.2.1, hb.2.2.2.2.1⟩, h2⟩
  have HSE : Hid (areB xs 0 3000 4 48 = decide (sumE xs = 0)) := by
    show _ = _
    unfold sumE
    cases areB xs 0 3000 4 48 <;> simp
  obtain ⟨T, hT⟩ : ∃ T, taL xs ys ts = T := ⟨_, rfl⟩
  obtain ⟨E1, hE1⟩ : ∃ E, taE xs ys ts = E := ⟨_, rfl⟩
  obtain ⟨E2, hE2⟩ : ∃ E, sumE xs = E := ⟨_, rfl⟩
  obtain ⟨S1, hS1⟩ : ∃ E, sumV xs = E := ⟨_, rfl⟩
  rw [hT] at HA HN htl ⊢
  rw [hE1] at HN HBD ⊢
  rw [hE2] at HN HSE ⊢
  rw [hS1] at HN ⊢
  clear hT hE1 hE2 hS1
  go_wp2_with fail
  refine (likeInts_c _ _ _ _ T _ (HA.out _ (Upd.refl w4)).2.2.2.1 (HA.out _ (Upd.refl w4)).2.2.2.2.1 htl.out).mono ?_
  rintro e w5 ⟨rfl, hu⟩
  have V5 := Lib.hid hu
  clear hu
  go_wp2_with fail
  refine (iIsStiffness_c px dx zs _ (HA.out _ V5.out).2.2.2.2.2 (by omega) k4).mono ?_
  rintro e w6 ⟨rfl, hu⟩
  have V6 := Lib.hid (V5.out.then0 hu.upd)
  clear hu
  go_wp2_with fail
  refine (sIsStiffness_c px dx zs _ (HA.out _ V6.out).2.2.2.2.2 (by omega)).mono ?_
  rintro e w7 ⟨rfl, hu⟩
  have V7 := Lib.hid (V6.out.then0 hu.upd)
  clear hu V5 V6
  go_wp2_with fail
  refine (iAreTensions_c p d xs _ (HA.out _ V7.out).1 (by omega)).mono ?_
  rintro e w' ⟨rfl, rfl⟩
  rw [HSE.out]
  by_cases e2 : E2 = 0
  case neg =>
    have e1 : ¬ E1 = 0 := fun e => e2 (HN.out e).2.2.1
    rw [decide_eq_false e2]
    go_wp2_with fail
    go_ret
    exact ⟨rfl, UA.out.then0 V7.out⟩
  subst e2
  by_cases e1 : E1 = 0
  case neg =>
    go_wp2_with fail
    go_ret
    exact ⟨rfl, UA.out.then0 V7.out⟩
  subst e1
  obtain ⟨n1, n2, -, n3, n4, n5⟩ := HN.out rfl
  obtain ⟨⟨b1, b2, b3⟩, b4⟩ := HBD.out rfl
  have HN1 := Lib.hid n1
  have HN2 := Lib.hid n2
  have HN3 := Lib.hid n3
  have HN4 := Lib.hid n4
  have HB1 := Lib.hid b1
  have HB2 := Lib.hid b2
  have HB4 := Lib.hid b4
  clear HN n1 n2 n3 n4 n5 b1 b2 b4 HSE HBD
  go_wp2_with fail
  go_loopw [15, 16] (fun v i wr => ∃ k : Nat, k ≤ ts.length ∧ i = .int .i64 k ∧ Hid (OwnI wr w7.heap.size v ((ts.take k).map (- ·))) ∧ Hid (Upd [] w7 wr)) (fun _ i _ => ts.length - (intOf i).toNat)
  case atStart => exact ⟨0, by omega, rfl, OwnI.lit (Upd.refl _), (Upd.refl _).alloc _⟩
  case round =>
    obtain ⟨k, hk, rfl, HO, HU⟩ := hrel
    by_cases hlt : k < ts.length
    · obtain ⟨b, off, x, rfl, hc, hx⟩ := (HA.out _ (V7.out.then0 HU.out)).2.2.1.get hlt
      have HS := Lib.hid (map_take_step hx.out)
      have hxb := HB1.out x (mem_of_get hx.out)
      have hw1 : IntKind.i64.wrap (-x) = -x := IntWalk.i64_in _ (by omega)
      have HLn : Hid (((ts.take k).map (- ·)).length ≤ 100) := by show _ ≤ _; simp; omega
      clear hxb
      go_wp2_with (at_builtin; refine wpList_appI rfl _ _ rfl _ _ _ rfl rfl HO.out HU.out (by have := HLn.out; omega) ?_; intro v' w1 h1 h2; have H1 := Lib.hid h1; have H2 := Lib.hid h2; clear h1 h2)
      go_roundw
      case rel => exact ⟨k + 1, by omega, by go_num, by rw [HS.out]; exact H1, H2⟩
      case measure => simp [intOf]; omega
    · obtain rfl : k = ts.length := by omega
      have HO2 := HO.out
      rw [List.take_length] at HO2
      obtain ⟨pn, dn, rfl, io, cn⟩ := HO2.intsAt
      have V8 : Hid (Upd [] w4 wr) := V7.out.then0 HU.out
      have hml : (ts.map (- ·)).length = ts.length := List.length_map ..
      obtain ⟨ms, hms⟩ : ∃ ms, ts.map (- ·) = ms := ⟨_, rfl⟩
      rw [hms] at io HN1 HN2 hml ⊢
      have HM : Hid (∀ w', Upd [] wr w' → IntsAt w' pn ms) := fun w' u => io.kept0 u
      have hml' : ms.length ≤ 1048576 := by omega
      clear HO HO2 io cn hms hml HU V7
      go_wp2_with fail
      refine (iTurnAll_c pt q pn dt f dn T ys ms _ (HA.out _ V8.out).2.2.2.1 (HA.out _ V8.out).2.1 (HM.out _ (Upd.refl _)) htl.out (by omega) hml' k2).mono ?_
      rintro e w9 ⟨v, rfl, o, hu⟩
      obtain ⟨pb, db, rfl, io, -⟩ := o.intsAt
      rw [HN2.out] at io
      rw [HN1.out, HN2.out]
      have V9 := Lib.hid (V8.out.then0 hu)
      have HB : Hid (∀ w', Upd [] w9 w' → IntsAt w' pb xs) := fun w' u => io.kept0 u
      clear o io hu V8 HM
      go_wp2_with fail
      refine (iSumOfTensions_c pt dt T _ (HA.out _ V9.out).2.2.2.1 htl.out).mono ?_
      rintro e w' ⟨rfl, rfl⟩
      rw [HN3.out]
      obtain ⟨st1, st2, st3, st4, st5⟩ := stiffB_t HB4.out
      have gb := gain_bd st1 st3
      obtain ⟨b, off, y0, rfl, hc, hy⟩ := (HA.out _ V9.out).2.1.get (k := 0) (by omega)
      rw [Nat.add_zero] at hc
      have hG : 2 * isum ys - y0 = gainF ys := by rw [gainF, List.getD_eq_getElem?_getD, hy.out]; rfl
      have HYB : Hid (∀ x, x ∈ ys → -1000000 ≤ x ∧ x ≤ 1000000) := fun x hx => by have := st1 x hx; omega
      have HTB : Hid (∀ x, x ∈ ts → -1000000 ≤ x ∧ x ≤ 1000000) := fun x hx => by have := HB1.out x hx; omega
      have hy0 := st1 y0 (mem_of_get hy.out)
      have hts := isum_bd 100 ts HB1.out
      have hprod := mul_bd (a := isum ts) (b := gainF ys) (A := 4800) (B := 1800) (by have := HB2.out; omega) (by omega)
      have hD : sumV T - S1 = isum ts * (2 * isum ys - y0) := by rw [hG]; exact HN4.out
      have hw1 : IntKind.i64.wrap (2 * isum ys) = 2 * isum ys := IntWalk.i64_in _ (by omega)
      have hw2 : IntKind.i64.wrap (2 * isum ys - y0) = 2 * isum ys - y0 := IntWalk.i64_in _ (by omega)
      have hw3 : IntKind.i64.wrap (isum ts * (2 * isum ys - y0)) = isum ts * (2 * isum ys - y0) := IntWalk.i64_in _ (by rw [hG]; omega)
      have hw4 : IntKind.i64.wrap (sumV T - S1) = isum ts * (2 * isum ys - y0) := by rw [hD, hw3]
      have i1 : (0 : Int) < (ys.length : Int) := by omega
      have HX1 := Lib.hid (HA.out _ V9.out).1
      have HX2 := Lib.hid (HA.out _ V9.out).2.1
      have HX3 := Lib.hid (HA.out _ V9.out).2.2.1
      have HX4 := Lib.hid (HB.out _ (Upd.refl _))
      clear st1 hprod hG hts gb hy0 hD st5 st4
      go_wp2_with fail
      go_quiet (first | (go_at_call_of 15 pb; exact quietD (likeInts_d pb p db d xs _ (HX4.out.kept0 ((Upd.refl _).drewN _)) (HX1.out.kept0 ((Upd.refl _).drewN _)) (by omega))) | (go_at_call_of 43 ts; exact quiet0 (sum_c r g ts _ (HX3.out.kept0 ((Upd.refl _).drewN _)) (by omega) HTB.out)) | (go_at_call_of 43 ys; exact quiet0 (sum_c (some ⟨b, off, none⟩) f ys _ (HX2.out.kept0 ((Upd.refl _).drewN _)) (by omega) HYB.out)))
      go_wp2_with fail
      go_ret
      exact ⟨rfl, (UA.out.then0 V9.out).drewN _⟩
end Go.Proofs.Ytdjdddepplaagaa
