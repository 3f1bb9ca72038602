/- The laws of chapter 7 that draw: means. -/
import Derived.Test.YtdjdddepplaagaaLawD
import Derived.Test.YtdjdddepplaagaaTurns
namespace Go.Proofs.Ytdjdddepplaagaa
open Go.RowKit
set_option linter.unusedVariables false
set_option linter.unusedSimpArgs false

theorem ceil_law (d G : Int) (hG : 0 < G) : d ≤ (d + G - 1) / G * G ∧ ((d + G - 1) / G - 1) * G < d := by
  have h1 := Int.mul_ediv_add_emod (d + G - 1) G
  have h2 := Int.emod_nonneg (d + G - 1) (show G ≠ 0 by omega)
  have h3 := Int.emod_lt_of_pos (d + G - 1) hG
  rw [Int.mul_comm] at h1
  rw [Int.sub_mul]
  omega
/-- The law of the means. -/
theorem tfm_law (M G m : Int) (hG : 0 < G) :
    (M ≤ m → 0 ≤ tfmF M G m ∧ m ≤ M + tfmF M G m * G ∧ (tfmF M G m = 0 ∨ M + (tfmF M G m - 1) * G < m)) ∧ (m < M → tfmF M G m < 0 ∧ M + tfmF M G m * G ≤ m ∧ m < M + (tfmF M G m + 1) * G) := by
  constructor
  · intro h
    by_cases e : M < m
    · have := ceil_law (m - M) G hG
      have h0 : 0 ≤ (m - M + G - 1) / G := Int.ediv_nonneg (by omega) (by omega)
      rw [show tfmF M G m = (m - M + G - 1) / G from if_pos e]
      refine ⟨h0, by omega, .inr (by omega)⟩
    · obtain rfl : M = m := by omega
      have : tfmF M G M = 0 := by
        rw [tfmF, if_neg (by omega), Int.sub_self, Int.zero_add, Int.ediv_eq_zero_of_lt (by omega) (by omega)]; rfl
      rw [this]; exact ⟨Int.le_refl _, by omega, .inl rfl⟩
  · intro h
    have := ceil_law (M - m) G hG
    have h1 : tfmF M G m = -((M - m + G - 1) / G) := if_neg (by omega)
    have h2 : 0 < (M - m + G - 1) / G := by
      have : 1 ≤ (M - m + G - 1) / G := Int.le_ediv_of_mul_le hG (by omega)
      omega
    rw [h1]
    refine ⟨by omega, ?_, ?_⟩
    · rw [Int.neg_mul]; omega
    · rw [show -((M - m + G - 1) / G) + 1 = -((M - m + G - 1) / G - 1) by omega, Int.neg_mul]; omega
set_option maxRecDepth 20000 in
set_option maxHeartbeats 6400000 in
theorem FnMeans_walk (a : Option Addr) (c : Nat) (bs : List Int) (w : World) (h : U8At w a bs) : Calls Try.prog 6 #[.slice a bs.length c] w (RetT w) := by
  have HC := Lib.hid h
  clear h
  by_cases hl : bs.length ≤ 4096
  case neg =>
    go_enter Try.func6, Try.ntmps6
    go_wp2_with (go_at_call 11; refine (big_x _ _ _ _ hl).mono ?_; rintro e w' ⟨rfl, rfl⟩)
    go_ret
    exact ⟨rfl, Upd.refl _⟩
  go_enter Try.func6, Try.ntmps6
  go_wp2_with (go_at_call 11; refine (big_y _ _ _ _ hl).mono ?_; rintro e w' ⟨rfl, rfl⟩)
  refine (DrawTurnsForMean_c a c bs _ HC.out hl).mono ?_
  rintro e w1 ⟨p, xs, d, q, ys, f, mm, rfl, hi1, hi2, ⟨l1, l2⟩, ⟨k1, k2⟩, hu⟩
  have HX : Hid (∀ w', Upd [] w1 w' → IntsAt w' p xs ∧ IntsAt w' q ys) := fun w' u => ⟨hi1.kept0 u, hi2.kept0 u⟩
  have U := Lib.hid hu
  have V : Hid (Upd [] w1 w1) := Upd.refl w1
  clear hi1 hi2 hu
  go_wp2_with fail
  refine (iTurnsForMean_c p q d f xs ys mm _ (HX.out _ V.out).1 (HX.out _ V.out).2 (by omega) (by omega) k2).mono ?_
  rintro e w2 ⟨rfl, hu⟩
  have V2 := Lib.hid (V.out.then0 hu.upd)
  clear hu
  go_wp2_with fail
  refine (sTurnsForMean_c p q d f xs ys mm _ (HX.out _ V2.out).1 (HX.out _ V2.out).2 (by omega) (by omega)).mono ?_
  rintro e w3 ⟨rfl, hu⟩
  have V3 := Lib.hid (V2.out.then0 hu.upd)
  clear hu
  go_wp2_with fail
  refine (iMeanTension_c p d xs _ (HX.out _ V3.out).1 (by omega)).mono ?_
  rintro e w' ⟨rfl, rfl⟩
  go_wp2_with fail
  refine (sMeanTension_c p d xs _ (HX.out _ V3.out).1 (by omega)).mono ?_
  rintro e w' ⟨rfl, rfl⟩
  by_cases he : tfmE xs ys mm = 0
  case neg =>
    go_wp2_with fail
    go_ret
    exact ⟨rfl, U.out.then0 V3.out⟩
  have HQ : Hid ((areB xs 0 3000 4 48 = true ∧ stiffB ys = true) ∧ inB mm 0 3000 = true) := by
    have h1 := he
    unfold tfmE tfmB at h1
    cases q1 : areB xs 0 3000 4 48 <;> cases q2 : stiffB ys <;> cases q3 : inB mm 0 3000 <;> simp [q1, q2, q3] at h1
    refine ⟨⟨?_, ?_⟩, ?_⟩ <;> first | rfl | assumption
  obtain ⟨hst1, hst2, hst3, hst4, hst5⟩ := stiffB_t HQ.out.1.2
  have hten := (tens_bd HQ.out.1.1).2.2.2.2
  have hmm := inB_t HQ.out.2
  have hgb := gain_bd hst1 hst3
  have HMV : Hid (meanV xs = meanF xs ∧ tfmV xs ys mm = tfmF (meanF xs) (gainF ys) mm) := by
    constructor
    · simp [meanV, HQ.out.1.1]
    · simp [tfmV, tfmB, HQ.out.1.1, HQ.out.1.2, HQ.out.2]
  have HLaw := Lib.hid (tfm_law (meanF xs) (gainF ys) mm hst5)
  obtain ⟨b, off, y0, rfl, hc, hy⟩ := (HX.out _ V3.out).2.get (k := 0) (by omega)
  rw [Nat.add_zero] at hc
  have HG : Hid (2 * isum ys - y0 = gainF ys) := by show _ = gainF ys; rw [gainF, List.getD_eq_getElem?_getD, hy.out]; rfl
  have HYB : Hid (∀ x, x ∈ ys → -1000000 ≤ x ∧ x ≤ 1000000) := fun x hx => by have := hst1 x hx; omega
  have hy0 := hst1 y0 (mem_of_get hy.out)
  have hw1 : IntKind.i64.wrap (2 * isum ys) = 2 * isum ys := IntWalk.i64_in _ (by omega)
  have hw2 : IntKind.i64.wrap (2 * isum ys - y0) = 2 * isum ys - y0 := IntWalk.i64_in _ (by omega)
  have i1 : (0 : Int) < (ys.length : Int) := by omega
  have HX3 := Lib.hid (HX.out _ V3.out).2
  clear hst1
  go_wp2_with fail
  go_quiet ((go_at_call 43; exact quiet0 (sum_c _ _ _ _ (HX3.out.kept0 ((Upd.refl _).drewN _)) (by omega) HYB.out)))
  rw [HG.out, HMV.out.1, HMV.out.2]
  clear hw1 hw2 hc HG he i1 hy0
  obtain ⟨M, hM⟩ : ∃ M, meanF xs = M := ⟨_, rfl⟩
  obtain ⟨G, hG⟩ : ∃ G, gainF ys = G := ⟨_, rfl⟩
  rw [hM] at hten HLaw ⊢
  rw [hG] at hgb hst5 HLaw ⊢
  obtain ⟨k, hk⟩ : ∃ k, tfmF M G mm = k := ⟨_, rfl⟩
  rw [hk] at HLaw ⊢
  clear HMV hM hG hk
  have hkG1 : (k - 1) * G = k * G - G := by rw [Int.sub_mul]; omega
  have hkG2 : (k + 1) * G = k * G + G := by rw [Int.add_mul]; omega
  by_cases hle : M ≤ mm
  · obtain ⟨c1, c2, c3⟩ := HLaw.out.1 hle
    have hkb : k * G < 20000 ∧ 0 ≤ k * G := by
      refine ⟨?_, Int.mul_nonneg c1 (by omega)⟩
      rcases c3 with rfl | c3
      · simp
      · omega
    have hkb2 : k ≤ 20000 := by
      have : k * 1 ≤ k * G := Int.mul_le_mul_of_nonneg_left (by omega) c1
      omega
    have hw3 : IntKind.i64.wrap (k * G) = k * G := IntWalk.i64_in _ (by omega)
    have hw4 : IntKind.i64.wrap ((k - 1) * G) = (k - 1) * G := IntWalk.i64_in _ (by omega)
    by_cases hk0 : k = 0
    · subst hk0
      have c4 : mm ≤ M := by simpa using c2
      clear hkG1 hkG2 hw4
      go_wp2_with fail
      go_ret
      exact ⟨rfl, (U.out.then0 V3.out).drewN _⟩
    · have c4 : M + (k - 1) * G < mm := by rcases c3 with h | h; exact absurd h hk0; exact h
      have hw5 : IntKind.i64.wrap (M + (k - 1) * G) = M + (k - 1) * G := IntWalk.i64_in _ (by omega)
      have hw6 : wrap64 (M + (k - 1) * G) = M + (k - 1) * G := IntWalk.wrap64_in _ (by omega)
      have hb : (k == 0) = false := beq_eq_false_iff_ne.2 hk0
      clear hkG1 hkG2 hk0
      go_wp2_with fail
      go_ret
      exact ⟨rfl, (U.out.then0 V3.out).drewN _⟩
  · obtain ⟨c1, c2, c3⟩ := HLaw.out.2 (by omega)
    have hkb : -20000 < k * G ∧ k * G ≤ 0 := by
      refine ⟨by omega, ?_⟩
      exact Int.mul_nonpos_of_nonpos_of_nonneg (by omega) (by omega)
    have hkb2 : -20000 ≤ k := by
      have : k * G ≤ k * 1 := Int.mul_le_mul_of_nonpos_left (by omega) (by omega)
      omega
    have hw3 : IntKind.i64.wrap (k * G) = k * G := IntWalk.i64_in _ (by omega)
    have hw4 : IntKind.i64.wrap ((k + 1) * G) = (k + 1) * G := IntWalk.i64_in _ (by omega)
    have hw6 : wrap64 (M + (k + 1) * G) = M + (k + 1) * G := IntWalk.wrap64_in _ (by omega)
    have hw7 : wrap64 (M + k * G) = M + k * G := IntWalk.wrap64_in _ (by omega)
    clear hkG1 hkG2
    go_wp2_with fail
    go_ret
    exact ⟨rfl, (U.out.then0 V3.out).drewN _⟩
end Go.Proofs.Ytdjdddepplaagaa
