/- The laws of chapter 7 that draw: bands. -/
import Derived.Test.YtdjdddepplaagaaLawD
import Derived.Test.YtdjdddepplaagaaSort
import Derived.Test.YtdjdddepplaagaaBand
namespace Go.Proofs.Ytdjdddepplaagaa
open Go.RowKit
set_option linter.unusedVariables false
set_option linter.unusedSimpArgs false

theorem mem_idxs {p : Int → Bool} {xs : List Int} {k : Nat} {x : Int} : x ∈ idxs p xs k ↔ ∃ j y, xs[j]? = some y ∧ p y = true ∧ x = ((k + j : Nat) : Int) := by
  induction xs generalizing k with
  | nil => simp [idxs]
  | cons a t ih =>
    have key : (∃ j y, (a :: t)[j]? = some y ∧ p y = true ∧ x = ((k + j : Nat) : Int)) ↔ (p a = true ∧ x = (k : Int)) ∨ ∃ j y, t[j]? = some y ∧ p y = true ∧ x = ((k + 1 + j : Nat) : Int) := by
      constructor
      · rintro ⟨j, y, h1, h2, h3⟩
        cases j with
        | zero => simp at h1; subst h1; exact .inl ⟨h2, by simpa using h3⟩
        | succ j => exact .inr ⟨j, y, by simpa using h1, h2, by rw [h3]; congr 1; omega⟩
      · rintro (⟨h1, h2⟩ | ⟨j, y, h1, h2, h3⟩)
        · exact ⟨0, a, by simp, h1, by simpa using h2⟩
        · exact ⟨j + 1, y, by simpa using h1, h2, by rw [h3]; congr 1; omega⟩
    rw [key, ← ih, idxs]
    cases hp : p a
    · simp
    · simp [List.mem_cons]
theorem slack_law {xs : List Int} {m : Int} (h : slackE xs m = 0) {j : Nat} {y : Int} (hj : xs[j]? = some y) : hasB (slackL xs m) (j : Int) = decide (y < m) := by
  have h1 : areB xs 0 3000 4 48 = true ∧ inB m 0 3000 = true := by
    unfold slackE at h
    cases q1 : areB xs 0 3000 4 48 <;> cases q2 : inB m 0 3000 <;> simp [q1, q2] at h ⊢
  have h2 : slackL xs m = idxs (ltB m) xs 0 := by simp [slackL, h1.1, h1.2]
  rw [h2]
  unfold hasB
  have h3 : ((j : Int) ∈ idxs (ltB m) xs 0) ↔ y < m := by
    rw [mem_idxs]
    constructor
    · rintro ⟨i, z, a, b, c⟩
      have : i = j := by omega
      subst this
      rw [hj] at a
      simp only [Option.some.injEq] at a
      subst a
      exact of_decide_eq_true b
    · intro hy
      exact ⟨j, y, hj, decide_eq_true hy, by simp⟩
  by_cases e : y < m
  · rw [decide_eq_true (h3.2 e), decide_eq_true e]
  · rw [decide_eq_false (fun x => e (h3.1 x)), decide_eq_false e]
theorem isum_same {xs : List Int} {v : Int} (h : ∀ x, x ∈ xs → x = v) : isum xs = xs.length * v := by
  induction xs with
  | nil => simp [isum]
  | cons x t ih =>
    have h1 := h x (by simp)
    have h2 := ih fun y hy => h y (by simp [hy])
    rw [isum, h1, h2, List.length_cons, Int.natCast_add, Int.add_mul]; simp; omega
theorem band_law {xs : List Int} {p : Int} (h : bandE xs p = 0) : (∀ z, z ∈ bandL xs p → hasB (bandL xs 0) z = true) ∧ bandE xs 0 = 0 ∧ (0 < spreadV xs ∨ (bandL xs 0).length = 0) := by
  have h1 : areB xs 0 3000 4 48 = true ∧ inB p 0 100 = true := by
    unfold bandE at h
    cases q1 : areB xs 0 3000 4 48 <;> cases q2 : inB p 0 100 <;> simp [q1, q2] at h ⊢
  have hp := inB_t h1.2
  have ht := tens_bd h1.1
  have h0 : inB 0 0 100 = true := inB_mk (by omega)
  have e1 : bandL xs p = idxs (farB (meanF xs) p) xs 0 := by simp [bandL, h1.1, h1.2]
  have e2 : bandL xs 0 = idxs (farB (meanF xs) 0) xs 0 := by simp [bandL, h1.1, h0]
  refine ⟨fun z hz => ?_, by simp [bandE, h1.1, h0], ?_⟩
  · rw [e1, mem_idxs] at hz
    obtain ⟨j, y, a, b, c⟩ := hz
    refine decide_eq_true ?_
    rw [e2, mem_idxs]
    refine ⟨j, y, a, decide_eq_true ?_, c⟩
    have b' : p * meanF xs < 100 * iabs (y - meanF xs) := of_decide_eq_true b
    have := Int.mul_nonneg hp.1 ht.2.2.2.2.1
    rw [Int.zero_mul]; omega
  · by_cases hs : 0 < spreadV xs
    · exact .inl hs
    · right
      have hn : 0 < xs.length := by have := ht.2.2.1; omega
      have a1 := minF_is xs hn
      have a2 := maxF_is xs hn
      have hsv : spreadV xs = maxF xs - minF xs := by simp [spreadV, h1.1, spreadF]
      have hall : ∀ x, x ∈ xs → x = minF xs := fun x hx => by have := a1.2 x hx; have := a2.2 x hx; omega
      have hm : meanF xs = minF xs := by
        unfold meanF nearF
        rw [isum_same hall]
        have hl : (0 : Int) < xs.length := by omega
        have : 2 * ((xs.length : Int) * minF xs) + xs.length = xs.length + (2 * xs.length) * minF xs := by rw [Int.mul_assoc]; omega
        rw [this, Int.add_mul_ediv_left _ _ (by omega), Int.ediv_eq_zero_of_lt (by omega) (by omega), Int.zero_add]
      rw [e2]
      have : idxs (farB (meanF xs) 0) xs 0 = [] := by
        apply List.eq_nil_iff_forall_not_mem.2
        intro z hz
        rw [mem_idxs] at hz
        obtain ⟨j, y, a, b, c⟩ := hz
        have b' : 0 * meanF xs < 100 * iabs (y - meanF xs) := of_decide_eq_true b
        have hy := hall y (mem_of_get a)
        rw [hm, hy, Int.sub_self] at b'
        simp [iabs] at b'
      rw [this]; rfl
set_option maxRecDepth 20000 in
set_option maxHeartbeats 6400000 in
theorem FnBands_walk (a : Option Addr) (c : Nat) (bs : List Int) (w : World) (h : U8At w a bs) : Calls Try.prog 8 #[.slice a bs.length c] w (RetT w) := by
  have HC := Lib.hid h
  clear h
  by_cases hl : bs.length ≤ 4096
  case neg =>
    go_enter Try.func8, Try.ntmps8
    go_wp2_with (go_at_call 11; refine (big_x _ _ _ _ hl).mono ?_; rintro e w' ⟨rfl, rfl⟩)
    go_ret
    exact ⟨rfl, Upd.refl _⟩
  go_enter Try.func8, Try.ntmps8
  go_wp2_with (go_at_call 11; refine (big_y _ _ _ _ hl).mono ?_; rintro e w' ⟨rfl, rfl⟩)
  refine (DrawOutOfBand_c a c bs _ HC.out hl).mono ?_
  rintro e w1 ⟨p, xs, d, pc, rfl, hi1, l1, k1, hu⟩
  have HX : Hid (∀ w', Upd [] w1 w' → IntsAt w' p xs) := fun w' u => hi1.kept0 u
  have U := Lib.hid hu
  clear hi1 hu
  go_wp2_with fail
  refine (iOutOfBand_c p d xs pc _ (HX.out _ (Upd.refl w1)) (by omega)).mono ?_
  rintro e w2 ⟨v, rfl, o, hu⟩
  obtain ⟨po, do_, rfl, io, -⟩ := o.intsAt
  have V2 := Lib.hid hu
  have HO : Hid (∀ w', Upd [] w2 w' → IntsAt w' po (bandL xs pc)) := fun w' u => io.kept0 u
  clear o io hu
  go_wp2_with fail
  refine (sOutOfBand_c p d xs pc _ (HX.out _ V2.out) (by omega)).mono ?_
  rintro e w3 ⟨v, rfl, o, hu⟩
  obtain ⟨ps, ds, rfl, io, -⟩ := o.intsAt
  have V3 := Lib.hid (V2.out.then0 hu)
  have T3 := Lib.hid hu
  have HS : Hid (∀ w', Upd [] w3 w' → IntsAt w' ps (bandL xs pc)) := fun w' u => io.kept0 u
  clear o io hu
  go_wp2_with fail
  refine (DrawSlackSpokes_c a c bs _ (HC.out.kept0 (U.out.then0 V3.out)) hl).mono ?_
  rintro e w4 ⟨q, ys, f, least, rfl, hi1, l2, k2, hu⟩
  have HY : Hid (∀ w', Upd [] w4 w' → IntsAt w' q ys) := fun w' u => hi1.kept0 u
  have V4 := Lib.hid (V3.out.then0 hu)
  have T4 := Lib.hid (T3.out.then0 hu)
  have S4 := Lib.hid hu
  clear hi1 hu
  go_wp2_with fail
  refine (iSlackSpokes_c q f ys least _ (HY.out _ (Upd.refl w4)) (by omega)).mono ?_
  rintro e w5 ⟨v, rfl, o, hu⟩
  obtain ⟨pl, dl, rfl, io, -⟩ := o.intsAt
  have V5 := Lib.hid hu
  have HL : Hid (∀ w', Upd [] w5 w' → IntsAt w' pl (slackL ys least)) := fun w' u => io.kept0 u
  clear o io hu
  go_wp2_with fail
  refine (sSlackSpokes_c q f ys least _ (HY.out _ V5.out) (by omega)).mono ?_
  rintro e w6 ⟨v, rfl, o, hu⟩
  obtain ⟨pk, dk, rfl, io, -⟩ := o.intsAt
  have V6 := Lib.hid (V5.out.then0 hu)
  have T6 := Lib.hid hu
  have HK : Hid (∀ w', Upd [] w6 w' → IntsAt w' pk (slackL ys least)) := fun w' u => io.kept0 u
  clear o io hu
  go_wp2_with fail
  refine (iSpreadOf_c p d xs _ (HX.out _ (V4.out.then0 V6.out)) (by omega)).mono ?_
  rintro e w7 ⟨rfl, hu⟩
  have V7 := Lib.hid hu
  clear hu
  go_wp2_with fail
  refine (sSpreadOf_c p d xs _ (HX.out _ ((V4.out.then0 V6.out).then0 V7.out)) (by omega)).mono ?_
  rintro e w8 ⟨rfl, hu⟩
  have V8 := Lib.hid (V7.out.then0 hu)
  clear hu V7
  -- everything reads in w8
  have HA : Hid (∀ w', Upd [] w8 w' → IntsAt w' p xs ∧ IntsAt w' po (bandL xs pc) ∧ IntsAt w' ps (bandL xs pc) ∧ IntsAt w' q ys ∧ IntsAt w' pl (slackL ys least) ∧ IntsAt w' pk (slackL ys least)) := fun w' u =>
    ⟨HX.out _ (((V4.out.then0 V6.out).then0 V8.out).then0 u), HO.out _ (((T4.out.then0 V6.out).then0 V8.out).then0 u), HS.out _ (((S4.out.then0 V6.out).then0 V8.out).then0 u), HY.out _ ((V6.out.then0 V8.out).then0 u), HL.out _ ((T6.out.then0 V8.out).then0 u), HK.out _ (V8.out.then0 u)⟩
  have UA := Lib.hid (((U.out.then0 V4.out).then0 V6.out).then0 V8.out)
  clear HX HO HS HY HL HK U V2 V3 V4 V5 V6 V8 T3 T4 T6 S4
  have hbl : Hid ((bandL xs pc).length ≤ 1048576) := by
    show _ ≤ _
    unfold bandL; split
    · have := idxs_length (farB (meanF xs) pc) xs 0; omega
    · simp
  have hsl : Hid ((slackL ys least).length ≤ 1048576) := by
    show _ ≤ _
    unfold slackL; split
    · have := idxs_length (ltB least) ys 0; omega
    · simp
  obtain ⟨B, hB⟩ : ∃ B, bandL xs pc = B := ⟨_, rfl⟩
  obtain ⟨S, hS⟩ : ∃ S, slackL ys least = S := ⟨_, rfl⟩
  have HBB := Lib.hid hB
  have HSS := Lib.hid hS
  rw [hB] at HA hbl ⊢
  rw [hS] at HA hsl ⊢
  clear hB hS
  obtain ⟨E1, hE1⟩ : ∃ E, slackE ys least = E := ⟨_, rfl⟩
  obtain ⟨E2, hE2⟩ : ∃ E, bandE xs pc = E := ⟨_, rfl⟩
  have HE1 := Lib.hid hE1
  have HE2 := Lib.hid hE2
  rw [hE1, hE2]
  clear hE1 hE2
  go_wp2_with fail
  refine (likeInts_c _ _ _ _ B _ (HA.out _ (Upd.refl w8)).2.1 (HA.out _ (Upd.refl w8)).2.2.1 hbl.out).mono ?_
  rintro e w9 ⟨rfl, hu⟩
  have V9 := Lib.hid hu
  clear hu
  go_wp2_with fail
  refine (likeInts_c _ _ _ _ S _ (HA.out _ V9.out).2.2.2.2.1 (HA.out _ V9.out).2.2.2.2.2 hsl.out).mono ?_
  rintro e w10 ⟨rfl, hu⟩
  have V10 := Lib.hid (V9.out.then0 hu)
  clear hu V9
  go_wp2_with fail
  by_cases he : E1 = 0
  · subst he
    go_loopw [19] (fun i wr => ∃ k : Nat, k ≤ ys.length ∧ i = .int .i64 k ∧ Hid (Upd [] w8 wr)) (fun i _ => ys.length - (intOf i).toNat)
    case atStart => exact ⟨0, by omega, rfl, V10⟩
    case round =>
      clear V10
      obtain ⟨k, hk, rfl, V⟩ := hrel
      by_cases hlt : k < ys.length
      · obtain ⟨b, off, y, rfl, hc, hy⟩ := (HA.out _ V.out).2.2.2.1.get hlt
        have HQ : hasB S (k : Int) = decide (y < least) := by rw [← HSS.out]; exact slack_law HE1.out hy.out
        have i1 : (0 : Int) ≤ (k : Int) := by omega
        have i2 : (k : Int) < (ys.length : Int) := by omega
        have HI := Lib.hid (HA.out _ V.out).2.2.2.2.1
        by_cases hyl : y < least
        · rw [decide_eq_true hyl] at HQ
          have HQ' := Lib.hid HQ
          clear HQ
          go_wp2_with fail
          go_quiet ((go_at_call 37; exact quiet0 (hasInt_c _ _ S _ _ (HI.out.kept0 ((Upd.refl _).drewN _)) hsl.out)))
          rw [HQ'.out]
          go_wp2_with fail
          go_roundw
          case rel => exact ⟨k + 1, by omega, by go_num, (V.out).drewN _⟩
          case measure => simp [intOf]; omega
        · rw [decide_eq_false hyl] at HQ
          have HQ' := Lib.hid HQ
          have HYL := Lib.hid hyl
          clear HQ hyl
          go_wp2_with fail
          go_quiet ((go_at_call 37; exact quiet0 (hasInt_c _ _ S _ _ (HI.out.kept0 ((Upd.refl _).drewN _)) hsl.out)))
          rw [HQ'.out]
          go_wp2_with fail
          all_goals first | (exfalso; rename_i hx; rw [decide_eq_false (by have := HYL.out; omega)] at hx; simp at hx; done) | skip
          go_roundw
          case rel => exact ⟨k + 1, by omega, by go_num, (V.out).drewN _⟩
          case measure => simp [intOf]; omega
      · obtain rfl : k = ys.length := by omega
        have hge : ¬ (ys.length : Int) < (ys.length : Int) := by omega
        by_cases e2 : E2 = 0
        · subst e2
          go_wp2_with fail
          refine (iOutOfBand_c p d xs 0 _ (HA.out _ V.out).1 (by omega)).mono ?_
          rintro e wa ⟨v, rfl, o, hu⟩
          obtain ⟨pn, dn, rfl, io, -⟩ := o.intsAt
          have VA := Lib.hid (V.out.then0 hu)
          have HN : Hid (∀ w', Upd [] wa w' → IntsAt w' pn (bandL xs 0)) := fun w' u => io.kept0 u
          obtain ⟨bl1, bl2, bl3⟩ := band_law HE2.out
          have hnl : Hid ((bandL xs 0).length ≤ 1048576) := by
            show _ ≤ _
            unfold bandL; split
            · have := idxs_length (farB (meanF xs) 0) xs 0; omega
            · simp
          rw [bl2]
          rw [HBB.out] at bl1
          generalize bandL xs 0 = N at *
          generalize spreadV xs = SP at *
          have BL1 := Lib.hid bl1
          have BL3 := Lib.hid bl3
          clear o io hu bl1 bl2 bl3
          go_wp2_with fail
          go_loopw [22] (fun i wr => ∃ k : Nat, k ≤ B.length ∧ i = .int .i64 k ∧ Hid (Upd [] wa wr)) (fun i _ => B.length - (intOf i).toNat)
          case atStart => exact ⟨0, by omega, rfl, Upd.refl _⟩
          case round =>
            obtain ⟨k, hk2, rfl, V2⟩ := hrel
            by_cases hlt2 : k < B.length
            · obtain ⟨b, off, y, rfl, hc, hy⟩ := (HA.out _ (VA.out.then0 V2.out)).2.1.get hlt2
              have HQ : Hid (hasB N y = true) := BL1.out _ (mem_of_get hy.out)
              have i1 : (0 : Int) ≤ (k : Int) := by omega
              have i2 : (k : Int) < (B.length : Int) := by have := hbl.out; omega
              have HI := Lib.hid (HN.out _ V2.out)
              have i3 := hbl.out
              go_wp2_with fail
              refine (hasInt_c _ _ N _ _ HI.out hnl.out).mono ?_
              rintro e wq ⟨rfl, rfl⟩
              rw [HQ.out]
              go_wp2_with fail
              go_roundw
              case rel => exact ⟨k + 1, by omega, by go_num, V2⟩
              case measure => have := hbl.out; simp [intOf]; omega
            · obtain rfl : k = B.length := by omega
              have hge2 : ¬ (B.length : Int) < (B.length : Int) := by omega
              rcases BL3.out with hs | hs
              · go_wp2_with fail
                go_ret
                exact ⟨rfl, UA.out.then0 (VA.out.then0 V2.out)⟩
              · by_cases hs2 : 0 < SP
                · go_wp2_with fail
                  go_ret
                  exact ⟨rfl, UA.out.then0 (VA.out.then0 V2.out)⟩
                · go_wp2_with fail
                  go_ret
                  exact ⟨rfl, UA.out.then0 (VA.out.then0 V2.out)⟩
        · go_wp2_with fail
          go_ret
          exact ⟨rfl, UA.out.then0 V.out⟩
  · go_loopw [19] (fun i wr => i = .int .i64 (0 : Nat) ∧ Hid (Upd [] w8 wr)) (fun i _ => 0)
    case atStart => exact ⟨rfl, V10⟩
    case round =>
      clear V10
      obtain ⟨rfl, V⟩ := hrel
      ·
        by_cases e2 : E2 = 0
        · subst e2
          go_wp2_with fail
          refine (iOutOfBand_c p d xs 0 _ (HA.out _ V.out).1 (by omega)).mono ?_
          rintro e wa ⟨v, rfl, o, hu⟩
          obtain ⟨pn, dn, rfl, io, -⟩ := o.intsAt
          have VA := Lib.hid (V.out.then0 hu)
          have HN : Hid (∀ w', Upd [] wa w' → IntsAt w' pn (bandL xs 0)) := fun w' u => io.kept0 u
          obtain ⟨bl1, bl2, bl3⟩ := band_law HE2.out
          have hnl : Hid ((bandL xs 0).length ≤ 1048576) := by
            show _ ≤ _
            unfold bandL; split
            · have := idxs_length (farB (meanF xs) 0) xs 0; omega
            · simp
          rw [bl2]
          rw [HBB.out] at bl1
          generalize bandL xs 0 = N at *
          generalize spreadV xs = SP at *
          have BL1 := Lib.hid bl1
          have BL3 := Lib.hid bl3
          clear o io hu bl1 bl2 bl3
          go_wp2_with fail
          go_loopw [22] (fun i wr => ∃ k : Nat, k ≤ B.length ∧ i = .int .i64 k ∧ Hid (Upd [] wa wr)) (fun i _ => B.length - (intOf i).toNat)
          case atStart => exact ⟨0, by omega, rfl, Upd.refl _⟩
          case round =>
            obtain ⟨k, hk2, rfl, V2⟩ := hrel
            by_cases hlt2 : k < B.length
            · obtain ⟨b, off, y, rfl, hc, hy⟩ := (HA.out _ (VA.out.then0 V2.out)).2.1.get hlt2
              have HQ : Hid (hasB N y = true) := BL1.out _ (mem_of_get hy.out)
              have i1 : (0 : Int) ≤ (k : Int) := by omega
              have i2 : (k : Int) < (B.length : Int) := by have := hbl.out; omega
              have HI := Lib.hid (HN.out _ V2.out)
              have i3 := hbl.out
              go_wp2_with fail
              refine (hasInt_c _ _ N _ _ HI.out hnl.out).mono ?_
              rintro e wq ⟨rfl, rfl⟩
              rw [HQ.out]
              go_wp2_with fail
              go_roundw
              case rel => exact ⟨k + 1, by omega, by go_num, V2⟩
              case measure => have := hbl.out; simp [intOf]; omega
            · obtain rfl : k = B.length := by omega
              have hge2 : ¬ (B.length : Int) < (B.length : Int) := by omega
              rcases BL3.out with hs | hs
              · go_wp2_with fail
                go_ret
                exact ⟨rfl, UA.out.then0 (VA.out.then0 V2.out)⟩
              · by_cases hs2 : 0 < SP
                · go_wp2_with fail
                  go_ret
                  exact ⟨rfl, UA.out.then0 (VA.out.then0 V2.out)⟩
                · go_wp2_with fail
                  go_ret
                  exact ⟨rfl, UA.out.then0 (VA.out.then0 V2.out)⟩
        · go_wp2_with fail
          go_ret
          exact ⟨rfl, UA.out.then0 V.out⟩
end Go.Proofs.Ytdjdddepplaagaa
