/- The law of the best turns. -/
import Derived.Test.YtiiljmaianfdeaaLawD
import Derived.Test.YtiiljmaianfdeaaDraw8b
import Derived.Test.YtiiljmaianfdeaaDice
import Derived.Deep.CutBlock
namespace Go.Proofs.Ytiiljmaianfdeaa
open Go.RowKit
set_option linter.unusedVariables false
set_option linter.unusedSimpArgs false

theorem U8At.lt {w : World} {a : Option Addr} {bs : List Int} (h : U8At w a bs) : ∀ ad, a = some ad → bs = [] ∨ ad.block < w.heap.size := by
  intro ad e
  rcases h with h | ⟨b, off, e2, hc⟩
  · exact .inl h
  · rw [e] at e2; cases e2
    cases hb : bs with
    | nil => exact .inl rfl
    | cons x t => exact .inr (World.block_lt_of_cell? w _ (hc 0 x (by rw [hb]; rfl)).1)
theorem trueF_len (e : List Int) (k : Nat) : ∀ now plan : List Int, (trueF e k now plan).length = plan.length := by
  induction k with
  | zero => intro now plan; rfl
  | succ k ih => intro now plan; rw [trueF]; split; rw [ih, addAt_length]; rfl
theorem tbL_le (xs e : List Int) (t : Int) : (tbL xs e t).length ≤ xs.length := by
  unfold tbL; split <;> (try split) <;> simp [trueF_len]
theorem iAfterPlan_m (a b d : Option Addr) (ca cb cd n : Nat) (xs e ps : List Int) (w : World) (en : ps.length = n) (h : IntsAt w a xs) (hs : IntsAt w b e) (ht : IntsAt w d ps) (hl : xs.length ≤ 1048576) (hl2 : e.length ≤ 1048576) (hl3 : n ≤ 1048576) :
    Calls Try.prog 27 #[.slice a xs.length ca, .slice b e.length cb, .slice d n cd] w (NewIC w (apL xs e ps) (apE xs e ps)) := by
  subst en; exact iAfterPlan_c a b d ca cb cd xs e ps w h hs ht hl hl2 hl3
set_option maxRecDepth 20000 in
set_option maxHeartbeats 6400000 in
theorem FnBestTurns_walk (a : Option Addr) (c : Nat) (bs : List Int) (w : World) (h : U8At w a bs) : Calls Try.prog 5 #[.slice a bs.length c] w (RetT w) := by
  have HC := Lib.hid h
  clear h
  by_cases hl : bs.length ≤ 4096
  case neg =>
    go_enter Try.func5, Try.ntmps5
    go_wp2_with (go_at_call 6; refine (big_x _ _ _ _ hl).mono ?_; rintro e w' ⟨rfl, rfl⟩)
    go_ret
    exact ⟨rfl, Upd.refl _⟩
  go_enter Try.func5, Try.ntmps5
  go_wp2_with (go_at_call 6; refine (big_y _ _ _ _ hl).mono ?_; rintro e w' ⟨rfl, rfl⟩)
  refine (DrawBestTurn_c a c bs _ HC.out hl).mono ?_
  rintro e w1 ⟨p, xs, d, q, es, f, rfl, hi1, hi2, ⟨lx, le⟩, hu⟩
  have HX := Lib.hid hi1
  have HE := Lib.hid hi2
  have U := Lib.hid hu
  replace HC := Lib.hid (HC.out.kept0 hu)
  clear hi1 hi2 hu
  go_wp2_with fail
  refine (iBestTurn_c p q d f xs es _ HX.out HE.out (by omega) (by omega)).mono ?_
  rintro e w2 ⟨rfl, hu⟩
  replace U := Lib.hid (U.out.then0 hu)
  replace HC := Lib.hid (HC.out.kept0 hu)
  replace HX := Lib.hid (HX.out.kept0 hu)
  replace HE := Lib.hid (HE.out.kept0 hu)
  clear hu
  go_wp2_with fail
  refine (sBestTurn_c p q d f xs es _ HX.out HE.out (by omega) (by omega)).mono ?_
  rintro e w3 ⟨rfl, hu⟩
  replace U := Lib.hid (U.out.then0 hu)
  replace HC := Lib.hid (HC.out.kept0 hu)
  replace HX := Lib.hid (HX.out.kept0 hu)
  replace HE := Lib.hid (HE.out.kept0 hu)
  clear hu
  have HBT := Lib.hid (@bt_law xs es)
  obtain ⟨S, hS⟩ : ∃ T, btS xs es = T := ⟨_, rfl⟩
  obtain ⟨Q, hQ⟩ : ∃ T, btQ xs es = T := ⟨_, rfl⟩
  obtain ⟨E1, hE1⟩ : ∃ T, btE xs es = T := ⟨_, rfl⟩
  rw [hS, hQ, hE1] at HBT ⊢
  clear hS hQ hE1
  go_wp2_with fail
  refine (DrawTrueByTurns_c a c bs _ HC.out hl).mono ?_
  rintro e w4 ⟨p2, x2, d2, q2, e2, f2, t2, rfl, hi1, hi2, ⟨lx2, le2⟩, hu⟩
  have HX2 := Lib.hid hi1
  have HE2 := Lib.hid hi2
  clear hi1 hi2
  replace U := Lib.hid (U.out.then0 hu)
  replace HC := Lib.hid (HC.out.kept0 hu)
  replace HX := Lib.hid (HX.out.kept0 hu)
  replace HE := Lib.hid (HE.out.kept0 hu)
  clear hu
  go_wp2_with fail
  refine (iTrueByTurns_c p2 q2 d2 f2 x2 e2 t2 _ HX2.out HE2.out (by omega) (by omega)).mono ?_
  rintro e w5 ⟨v, rfl, o, hu⟩
  obtain ⟨pa, da, rfl, ir, -⟩ := o.intsAt
  have HA := Lib.hid ir
  replace U := Lib.hid (U.out.then0 hu)
  replace HC := Lib.hid (HC.out.kept0 hu)
  replace HX := Lib.hid (HX.out.kept0 hu)
  replace HE := Lib.hid (HE.out.kept0 hu)
  replace HX2 := Lib.hid (HX2.out.kept0 hu)
  replace HE2 := Lib.hid (HE2.out.kept0 hu)
  clear o ir hu
  go_wp2_with fail
  refine (sTrueByTurns_c p2 q2 d2 f2 x2 e2 t2 _ HX2.out HE2.out (by omega) (by omega)).mono ?_
  rintro e w6 ⟨v, rfl, o, hu⟩
  obtain ⟨pb, db, rfl, ir, -⟩ := o.intsAt
  have HA2 := Lib.hid ir
  replace U := Lib.hid (U.out.then0 hu)
  replace HC := Lib.hid (HC.out.kept0 hu)
  replace HX := Lib.hid (HX.out.kept0 hu)
  replace HE := Lib.hid (HE.out.kept0 hu)
  replace HA := Lib.hid (HA.out.kept0 hu)
  clear o ir hu
  have hal := Lib.hid (tbL_le x2 e2 t2)
  obtain ⟨A, hA⟩ : ∃ T, tbL x2 e2 t2 = T := ⟨_, rfl⟩
  generalize tbE x2 e2 t2 = E2
  rw [hA] at HA HA2 hal ⊢
  clear hA HX2 HE2
  go_wp2_with fail
  refine (iWorstPlace_c p d xs _ HX.out (by omega)).mono ?_
  rintro e w7 ⟨rfl, hu⟩
  replace U := Lib.hid (U.out.then0 hu)
  replace HC := Lib.hid (HC.out.kept0 hu)
  replace HX := Lib.hid (HX.out.kept0 hu)
  replace HE := Lib.hid (HE.out.kept0 hu)
  replace HA := Lib.hid (HA.out.kept0 hu)
  replace HA2 := Lib.hid (HA2.out.kept0 hu)
  clear hu
  go_wp2_with fail
  refine (sWorstPlace_c p d xs _ HX.out (by omega)).mono ?_
  rintro e w8 ⟨rfl, hu⟩
  replace U := Lib.hid (U.out.then0 hu)
  replace HC := Lib.hid (HC.out.kept0 hu)
  replace HX := Lib.hid (HX.out.kept0 hu)
  replace HE := Lib.hid (HE.out.kept0 hu)
  replace HA := Lib.hid (HA.out.kept0 hu)
  replace HA2 := Lib.hid (HA2.out.kept0 hu)
  clear hu
  have HWO := Lib.hid (@worst_law xs)
  have HWA : Hid (areB xs (-500) 500 4 10 = (worstE xs == 0)) := by show _ = _; unfold worstE; cases areB xs (-500) 500 4 10 <;> simp
  obtain ⟨W0, hW0⟩ : ∃ T, worstV xs = T := ⟨_, rfl⟩
  obtain ⟨E3, hE3⟩ : ∃ T, worstE xs = T := ⟨_, rfl⟩
  rw [hW0, hE3] at HWO ⊢
  rw [hE3] at HWA
  clear hW0 hE3
  go_wp2_with fail
  refine (iDishAfter_c p d xs _ HX.out (by omega)).mono ?_
  rintro e w' ⟨rfl, rfl⟩
  go_wp2_with fail
  refine (sDishAfter_c p d xs _ HX.out (by omega)).mono ?_
  rintro e w' ⟨rfl, rfl⟩
  generalize dishV xs = V4
  generalize dishE xs = E4
  go_wp2_with fail
  refine (likeInts_c _ _ _ _ A _ HA.out HA2.out (by have := hal.out; omega)).mono ?_
  rintro e w9 ⟨rfl, hu⟩
  replace U := Lib.hid (U.out.then0 hu)
  replace HC := Lib.hid (HC.out.kept0 hu)
  replace HX := Lib.hid (HX.out.kept0 hu)
  replace HE := Lib.hid (HE.out.kept0 hu)
  clear hu
  clear HA HA2 hal lx2 le2
  go_wp2_with fail
  refine (iAreDeviations_c p d xs _ HX.out (by omega)).mono ?_
  rintro e w' ⟨rfl, rfl⟩
  rw [HWA.out]
  have HALL : Hid (∀ w', Upd [] w9 w' → IntsAt w' p xs ∧ IntsAt w' q es ∧ U8At w' a bs) := fun w' u => ⟨HX.out.kept0 u, HE.out.kept0 u, HC.out.kept0 u⟩
  have U0 : Hid (Upd [] w9 w9) := Upd.refl _
  clear HX HE HC HWA
  go_upto_if 151 with fail
  go_cut [] from 150 (fun wx => Hid (Upd [] w9 wx))
  case first =>
    clear HBT
    by_cases e3 : E3 = 0
    · subst e3
      obtain ⟨k0, f1, f2', f3, f4, f5⟩ := HWO.out rfl
      subst f1
      have F3 := Lib.hid f3
      have F5 := Lib.hid f5
      clear HWO f3 f5
      obtain ⟨y, hy⟩ : ∃ y, xs[k0]? = some y := ⟨_, List.getElem?_eq_getElem f2'⟩
      have HY := Lib.hid hy
      have hyb := F3.out y (mem_of_get hy)
      clear hy
      go_wp2_with fail
      go_loopw [26] (fun i wr => ∃ k : Nat, k ≤ xs.length ∧ i = .int .i64 k ∧ Hid (Upd [] w9 wr)) (fun i _ => xs.length - (intOf i).toNat)
      case atStart => exact ⟨0, by omega, rfl, U0⟩
      case round =>
        clear U0
        obtain ⟨k, hk, rfl, V⟩ := hrel
        obtain ⟨w10, ew10⟩ : ∃ x : World, x = wr := ⟨_, rfl⟩
        subst ew10
        by_cases hlt : k < xs.length
        · obtain ⟨b1, o1, x, rfl, hcx, hx⟩ := (HALL.out _ V.out).1.get hlt
          obtain ⟨b2, o2, y2, e2', hcy, hy2⟩ := (HALL.out _ V.out).1.get f2'
          cases e2'
          obtain rfl : y2 = y := by have := hy2.out; rw [HY.out] at this; simpa using this.symm
          have hxb := F3.out x (mem_of_get hx.out)
          have hq := F5.out k x y2 hx.out HY.out
          have i1 : (0 : Int) ≤ (k : Int) := by omega
          have i2 : (k : Int) < (xs.length : Int) := by omega
          have i3 : (0 : Int) ≤ (k0 : Int) := by omega
          have i4 : (k0 : Int) < (xs.length : Int) := by omega
          have hw0 : IntKind.i64.wrap (-x) = -x := IntWalk.i64_in _ (by omega)
          have hw1 : IntKind.i64.wrap (-y2) = -y2 := IntWalk.i64_in _ (by omega)
          clear hx hy2
          go_wp2_with fail
          by_cases hxn : x < 0
          all_goals by_cases hyn : y2 < 0
          all_goals unfold iabs at hq
          all_goals first | rw [if_pos hxn] at hq | rw [if_neg hxn] at hq
          all_goals first | rw [if_pos hyn] at hq | rw [if_neg hyn] at hq
          all_goals
            go_quiet (fail)
            go_wp2_with fail
          all_goals first | (exfalso; rename_i hx; omega; done) | skip
          all_goals
            go_roundw
            case rel => exact ⟨k + 1, by omega, by go_num, (V.out).drewN _⟩
            case measure => simp [intOf]; omega
        · go_wp2_with fail
          go_meet
          case rel => exact V
    · clear HWO HALL
      go_wp2_with fail
      go_meet
      case rel => exact U0
  case rest =>
    clear HWO U0
    have V := hcut
    clear hcut
    by_cases e1 : E1 = 0
    case neg =>
      clear HBT HALL
      go_wp2_with fail
      go_ret
      exact ⟨rfl, U.out.then0 V.out⟩
    case pos =>
      subst e1
      obtain ⟨k0, rfl, hk0, hxs, hes, hxl, HR⟩ := HBT.out rfl
      have HBX := Lib.hid hxs
      have HBE := Lib.hid hes
      have HRR := Lib.hid HR
      clear HBT hxs hes HR
      have i1 : (0 : Int) ≤ (k0 : Int) := by omega
      have i2 : (k0 : Int) < (xs.length : Int) := by omega
      go_wp2_with (at_make; refine wpList_mkI rfl _ _ rfl .i64 .i64 xs.length rfl rfl (by omega) (Upd.refl _) ?_; intro w10 h1 h2 h3; have hc := h1.cell (k := k0) (x := 0) (by simp [hk0]); have hf := h1.free k0; have O1 := Lib.hid (h1.set k0 Q (by simpa using hk0)); have hsz := V.out.size; replace V := Lib.hid ((V.out.then0 h2).setCell (p := ⟨wc.heap.size, k0, none⟩) (.int .i64 Q) (.inr hsz)); clear h1 h2 h3 hsz)
      have HT1 : Hid (IntsAt (w10.setCell ⟨wc.heap.size, k0, none⟩ (.int .i64 Q)) (some ⟨wc.heap.size, 0, none⟩) (oneF xs.length k0 Q)) := O1.out.ints
      clear hc hf O1
      obtain ⟨o1, ho1⟩ : ∃ k, wc.heap.size = k := ⟨_, rfl⟩
      rw [ho1] at HT1 V ⊢
      clear ho1
      generalize w10.setCell ⟨o1, k0, none⟩ (.int .i64 Q) = w11 at HT1 V ⊢
      refine (iAfterPlan_m p q (some ⟨o1, 0, none⟩) d f _ xs.length xs es (oneF xs.length k0 Q) _ (oneF_length ..) (HALL.out _ V.out).1 (HALL.out _ V.out).2.1 HT1.out (by omega) (by omega) (by omega)).mono ?_
      rintro e w12 ⟨v, rfl, o, hu⟩
      obtain ⟨pA, dA, rfl, ir, -⟩ := o.intsAt
      have HA := Lib.hid ir
      replace V := Lib.hid (V.out.then0 hu)
      clear o ir hu HT1
      rcases HRR.out with h3 | ⟨h0, hAl, hA5, hlt, hbest⟩
      · rw [h3]
        clear HRR HA h3
        go_wp2_with fail
        go_ret
        exact ⟨rfl, U.out.then0 V.out⟩
      · rw [h0, hAl]
        have HB := Lib.hid hbest
        have HAL := Lib.hid hAl
        have HA5 := Lib.hid hA5
        have HLT := Lib.hid hlt
        clear HRR h0 hAl hA5 hlt hbest
        obtain ⟨A2, hA2⟩ : ∃ T, apL xs es (oneF xs.length k0 Q) = T := ⟨_, rfl⟩
        rw [hA2] at HB HAL HA5 HLT HA
        clear hA2
        have HS : Hid (∀ w', Upd [] w12 w' → IntsAt w' pA A2) := fun w' u => HA.out.kept0 u
        have HALL2 : Hid (∀ w', Upd [] w12 w' → IntsAt w' p xs ∧ IntsAt w' q es ∧ U8At w' a bs) := fun w' u => HALL.out _ (V.out.then0 u)
        have UA := Lib.hid (U.out.then0 V.out)
        have V0 : Hid (Upd [] w12 w12) := Upd.refl _
        clear HA HALL U V
        go_wp2_with fail
        go_loopw [30, 31, 32] (fun s t i wr => ∃ (k : Nat) (S T : Int), k ≤ xs.length ∧ i = .int .i64 k ∧ s = .int .i64 S ∧ t = .int .i64 T ∧ Hid (isq (xs.take k) = S) ∧ Hid (isq (A2.take k) = T) ∧ Hid (Upd [] w12 wr)) (fun _ _ i _ => xs.length - (intOf i).toNat)
        case atStart => exact ⟨0, 0, 0, by omega, rfl, rfl, rfl, rfl, rfl, V0⟩
        case round =>
          clear V0
          obtain ⟨k, S, T, hk, rfl, rfl, rfl, HSS, HTT, V⟩ := hrel
          obtain ⟨w13, ew13⟩ : ∃ x : World, x = wr := ⟨_, rfl⟩
          subst ew13
          have hSb : -480000000000 ≤ S ∧ S ≤ 480000000000 := by rw [← HSS.out]; exact isq_one_bd HBX.out hxl.2 k
          have hTb : -480000000000 ≤ T ∧ T ≤ 480000000000 := by rw [← HTT.out]; exact isq_one_bd HA5.out (by have := HAL.out; omega) k
          by_cases hlk : k < xs.length
          · obtain ⟨b1, o1, x, rfl, hcx, hx⟩ := (HALL2.out _ V.out).1.get hlk
            obtain ⟨b2, o2, y, rfl, hcy, hy⟩ := (HS.out _ V.out).get (k := k) (by have := HAL.out; omega)
            have hxb := HBX.out x (mem_of_get hx.out)
            have hyb := HA5.out y (mem_of_get hy.out)
            have HS2 : Hid (isq (xs.take (k + 1)) = S + x * x) := by show _ = _; rw [isq_step hx.out, HSS.out]
            have HT2 : Hid (isq (A2.take (k + 1)) = T + y * y) := by show _ = _; rw [isq_step hy.out, HTT.out]
            have hxx := mul_bd (A := 500) (B := 500) hxb hxb
            have hyy := mul_bd (A := 500) (B := 500) hyb hyb
            have j1 : (0 : Int) ≤ (k : Int) := by omega
            have j2 : (k : Int) < (xs.length : Int) := by omega
            have hw1 : IntKind.i64.wrap (x * x) = x * x := IntWalk.i64_in _ (by omega)
            have hw2 : IntKind.i64.wrap (S + x * x) = S + x * x := IntWalk.i64_in _ (by omega)
            have hw3 : IntKind.i64.wrap (y * y) = y * y := IntWalk.i64_in _ (by omega)
            have hw4 : IntKind.i64.wrap (T + y * y) = T + y * y := IntWalk.i64_in _ (by omega)
            clear hx hy hxx hyy HSS HTT
            go_wp2_with fail
            go_quiet (fail)
            have hcy2 : (w13.drewN nq).cell? ⟨b2, o2 + k, none⟩ = some (.int .i64 y) := ((Upd.refl w13).drewN nq).cell hcy (by simp)
            clear hcx hcy
            have V2 := Lib.hid (V.out.drewN nq)
            generalize w13.drewN nq = w14 at hcy2 V2 ⊢
            go_wp2_with fail
            go_quiet (fail)
            go_wp2_with fail
            go_roundw
            case rel => exact ⟨k + 1, S + x * x, T + y * y, by omega, by go_num, by go_num, by go_num, HS2, HT2, (V2.out).drewN _⟩
            case measure => simp [intOf]; omega
          · obtain rfl : k = xs.length := by omega
            have HLT2 : T < S := by
              have h1 := HSS.out; have h2 := HTT.out; have h3 := HAL.out
              rw [List.take_length] at h1
              rw [← h3, List.take_length] at h2
              rw [← h1, ← h2]; exact HLT.out
            have HT2 : Hid (isq A2 = T) := by
              have h2 := HTT.out; have h3 := HAL.out
              rw [← h3, List.take_length] at h2; exact h2
            clear HSS HTT HLT
            have j1 : ¬ (xs.length : Int) < (xs.length : Int) := by omega
            have hz1 := V.out.size
            obtain ⟨o1, ho1⟩ : ∃ k, w13.heap.size = k := ⟨_, rfl⟩
            rw [ho1] at hz1
            go_wp2_with (at_make; refine wpList_mkI rfl _ _ rfl .i64 .i64 xs.length rfl rfl (by omega) (Upd.refl _) ?_; intro w14 h1 h2 h3; have O1 := Lib.hid h1; replace V := Lib.hid (V.out.then0 h2); have HSZ := Lib.hid h3; clear h1 h2 h3)
            rw [ho1] at O1 HSZ
            have hsz := HSZ.out
            clear ho1 HSZ
            have HLT1 := Lib.hid (U8At.lt (HALL2.out _ V.out).2.2)
            refine (roll_c a c bs _ _ (HALL2.out _ V.out).2.2 hl).mono ?_
            rintro e w15 ⟨g1, rfl, hg1, hd, hu⟩
            have HD := Lib.hid hd
            replace O1 := Lib.hid (O1.out.kept0 hu)
            replace V := Lib.hid (V.out.then0 hu)
            clear hd hu
            go_wp2_with fail
            refine (below_c g1 a c bs _ _ HD.out (HALL2.out _ V.out).2.2 (fun ad e => (HLT1.out ad e).imp id fun h => by omega) hl (by omega)).mono ?_
            rintro e w16 ⟨x, rfl, hx, hu⟩
            obtain ⟨j, hj⟩ : ∃ N : Nat, x = N := ⟨x.toNat, by omega⟩
            subst hj
            have hj : j < xs.length := by omega
            replace O1 := Lib.hid (O1.out.keptNe hu (fun k hk => by cases hk; simp; omega))
            replace V := Lib.hid (V.out.afterB hu (fun k hk => by rw [List.mem_singleton.1 hk]; omega))
            have hsz16 : o1 < w16.heap.size := by have := hu.size; have := (World.ownsRow.lt (w := w16) O1.out) o1 rfl; omega
            clear HD HLT1 hu hx hg1 hsz
            go_wp2_with fail
            have HLT1 := Lib.hid (U8At.lt (HALL2.out _ V.out).2.2)
            refine (roll_c a c bs _ _ (HALL2.out _ V.out).2.2 hl).mono ?_
            rintro e w17 ⟨g2, rfl, hg2, hd, hu⟩
            have HD := Lib.hid hd
            replace O1 := Lib.hid (O1.out.kept0 hu)
            replace V := Lib.hid (V.out.then0 hu)
            clear hd hu
            go_wp2_with fail
            refine (below_c g2 a c bs _ _ HD.out (HALL2.out _ V.out).2.2 (fun ad e => (HLT1.out ad e).imp id fun h => by omega) hl (by omega)).mono ?_
            rintro e w18 ⟨y, rfl, hy, hu⟩
            replace O1 := Lib.hid (O1.out.keptNe hu (fun k hk => by cases hk; simp; omega))
            replace V := Lib.hid (V.out.afterB hu (fun k hk => by rw [List.mem_singleton.1 hk]; omega))
            clear HD HLT1 hu hg2 hsz16
            have hc := O1.out.cell (k := j) (x := 0) (by simp [hj])
            have hf := O1.out.free j
            have hw1 : IntKind.i64.wrap (2 * y) = 2 * y := IntWalk.i64_in _ (by omega)
            have hw2 : IntKind.i64.wrap (2 * y - 1) = 2 * y - 1 := IntWalk.i64_in _ (by omega)
            have j2 : (0 : Int) ≤ (j : Int) := by omega
            have j3 : (j : Int) < (xs.length : Int) := by omega
            have HT1 : Hid (IntsAt (w18.setCell ⟨o1, j, none⟩ (.int .i64 (2 * y - 1))) (some ⟨o1, 0, none⟩) (oneF xs.length j (2 * y - 1))) := (O1.out.set j (2 * y - 1) (by simpa using hj)).ints
            replace V := Lib.hid (V.out.setCell (p := ⟨o1, j, none⟩) (.int .i64 (2 * y - 1)) (.inr hz1))
            clear O1
            go_wp2_with fail
            clear hc hf hw1 hw2
            have hq2 : 2 * y - 1 = 1 ∨ 2 * y - 1 = -1 := by omega
            clear hy
            generalize 2 * y - 1 = z at hq2 HT1 V ⊢
            generalize w18.setCell ⟨o1, j, none⟩ (.int .i64 z) = w19 at HT1 V ⊢
            refine (iAfterPlan_m p q (some ⟨o1, 0, none⟩) d f _ xs.length xs es (oneF xs.length j z) _ (oneF_length ..) (HALL2.out _ V.out).1 (HALL2.out _ V.out).2.1 HT1.out (by omega) (by omega) (by omega)).mono ?_
            rintro e w20 ⟨v, rfl, o, hu⟩
            obtain ⟨pN, dN, rfl, ir, -⟩ := o.intsAt
            have HN : Hid (∀ w', Upd [] w20 w' → IntsAt w' pN (apL xs es (oneF xs.length j z))) := fun w' u => ir.kept0 u
            replace V := Lib.hid (V.out.then0 hu)
            have HB2 := Lib.hid (HB.out j z hj hq2)
            clear o ir hu HT1 HB HS HALL2 hq2 hz1
            obtain ⟨N, hN⟩ : ∃ T, apL xs es (oneF xs.length j z) = T := ⟨_, rfl⟩
            obtain ⟨E8, hE8⟩ : ∃ T, apE xs es (oneF xs.length j z) = T := ⟨_, rfl⟩
            rw [hN, hE8] at HB2
            rw [hN] at HN
            rw [hN, hE8]
            clear hN hE8
            have V0 : Hid (Upd [] w20 w20) := Upd.refl _
            go_upto_if 258 with fail
            go_cut [36] from 257 (fun t wx => ∃ T3 : Int, t = .int .i64 T3 ∧ T ≤ T3 ∧ Hid (Upd [] w20 wx))
            case first =>
              by_cases e8 : E8 = 0
              · subst e8
                obtain ⟨g1, g2, g3⟩ := HB2.out rfl
                have G1 := Lib.hid g1
                have G2 := Lib.hid g2
                have hTN : T ≤ isq N := by rw [← HT2.out]; exact g3
                have hNl : (N.length : Int) ≤ 10 := by omega
                clear g1 g2 g3 HB2
                go_wp2_with fail
                go_loopw [36, 37] (fun t i wr => ∃ (k : Nat) (T : Int), k ≤ N.length ∧ i = .int .i64 k ∧ t = .int .i64 T ∧ Hid (isq (N.take k) = T) ∧ Hid (Upd [] w20 wr)) (fun _ i _ => N.length - (intOf i).toNat)
                case atStart => exact ⟨0, 0, by omega, rfl, rfl, rfl, V0⟩
                case round =>
                  clear V0
                  obtain ⟨k, T5, hk, rfl, rfl, HTT, V5⟩ := hrel
                  obtain ⟨w21, ew21⟩ : ∃ x : World, x = wr := ⟨_, rfl⟩
                  subst ew21
                  have hTb : -480000000000 ≤ T5 ∧ T5 ≤ 480000000000 := by rw [← HTT.out]; exact isq_one_bd G1.out hNl k
                  by_cases hlk : k < N.length
                  · obtain ⟨b1, o1, x, rfl, hcx, hx⟩ := (HN.out _ V5.out).get hlk
                    have hxb := G1.out x (mem_of_get hx.out)
                    have HTn : Hid (isq (N.take (k + 1)) = T5 + x * x) := by show _ = _; rw [isq_step hx.out, HTT.out]
                    have hxx := mul_bd (A := 500) (B := 500) hxb hxb
                    have j1 : (0 : Int) ≤ (k : Int) := by omega
                    have j2 : (k : Int) < (N.length : Int) := by omega
                    have hw1 : IntKind.i64.wrap (x * x) = x * x := IntWalk.i64_in _ (by omega)
                    have hw2 : IntKind.i64.wrap (T5 + x * x) = T5 + x * x := IntWalk.i64_in _ (by omega)
                    clear hx hxx HTT
                    go_wp2_with fail
                    go_quiet (fail)
                    go_wp2_with fail
                    go_roundw
                    case rel => exact ⟨k + 1, T5 + x * x, by omega, by go_num, by go_num, HTn, (V5.out).drewN _⟩
                    case measure => simp [intOf]; omega
                  · obtain rfl : k = N.length := by omega
                    have hT5 : T ≤ T5 := by have := HTT.out; rw [List.take_length] at this; omega
                    clear HTT
                    go_wp2_with fail
                    go_meet
                    case rel => exact ⟨T5, rfl, hT5, V5⟩
              · clear HB2
                go_wp2_with fail
                go_meet
                case rel => exact ⟨T, rfl, Int.le_refl _, V0⟩
            case rest =>
              clear HB2 V0 HN
              obtain ⟨T3, rfl, hT3, V9⟩ := hcut
              go_wp2_with fail
              go_ret
              exact ⟨rfl, UA.out.then0 (V.out.then0 V9.out)⟩
end Go.Proofs.Ytiiljmaianfdeaa
