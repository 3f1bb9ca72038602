/- The law of the speeds. -/
import Derived.Test.YtjnkckpebfafjaaLawD
import Derived.Test.YtjnkckpebfafjaaGearC
import Derived.Test.YtjnkckpebfafjaaDrawT4
import Derived.Deep.CutBlock
namespace Go.Proofs.Ytjnkckpebfafjaa
open Go.RowKit
set_option linter.unusedVariables false
set_option linter.unusedSimpArgs false

theorem spF_mono {fs rs : List Int} {n : Int} {i j : Nat} {k l : Int} (hn : 1000 ≤ n) (h1 : 1 ≤ tooth fs i) (h2 : 1 ≤ tooth rs j) (hk : 0 ≤ k) (hl : k ≤ l) : spF fs rs n i j k ≤ spF fs rs n i j l := by
  unfold spF
  have hnt : 0 ≤ n * tooth fs i := Int.mul_nonneg (by omega) (by omega)
  have e : ∀ x : Int, 60 * x * n * tooth fs i = x * (60 * (n * tooth fs i)) := fun x => by rw [Int.mul_assoc (60 * x), Int.mul_comm 60 x, Int.mul_assoc]
  rw [e, e]
  have a1 : 0 ≤ k * (60 * (n * tooth fs i)) := Int.mul_nonneg hk (by omega)
  have a2 : k * (60 * (n * tooth fs i)) ≤ l * (60 * (n * tooth fs i)) := Int.mul_le_mul_of_nonneg_right hl (by omega)
  rw [Int.tdiv_eq_ediv_of_nonneg a1, Int.tdiv_eq_ediv_of_nonneg (by omega)]
  exact Int.ediv_le_ediv (by omega) a2
theorem cd3_yes {fs rs : List Int} {n f r k lim : Int} (h : cd3 fs rs n f r k lim = 0) : trB fs rs n = true ∧ gearB fs.length rs.length f r = true ∧ 0 ≤ k ∧ k ≤ lim := by
  unfold cd3 at h
  cases q1 : trB fs rs n <;> cases q2 : gearB fs.length rs.length f r <;> cases q3 : inB k 0 lim <;> simp [q1, q2, q3] at h
  exact ⟨rfl, rfl, inB_t q3⟩
theorem cd3_mk {fs rs : List Int} {n f r k lim : Int} (h1 : trB fs rs n = true) (h2 : gearB fs.length rs.length f r = true) (h3 : 0 ≤ k ∧ k ≤ lim) : cd3 fs rs n f r k lim = 0 := by
  simp [cd3, h1, h2, inB_mk h3]
theorem sp_law {fs rs : List Int} {n f r k : Int} (h : spE fs rs n f r k = 0) (hk : k < 200) : spE fs rs n f r (k + 1) = 0 ∧ spV fs rs n f r k ≤ spV fs rs n f r (k + 1) ∧ 0 ≤ k := by
  obtain ⟨h1, h2, h3⟩ := cd3_yes h
  have h5 : cd3 fs rs n f r (k + 1) 200 = 0 := cd3_mk h1 h2 (by omega)
  refine ⟨h5, ?_, h3.1⟩
  have e1 : spV fs rs n f r k = spF fs rs n f.toNat r.toNat k := if_pos h
  have e2 : spV fs rs n f r (k + 1) = spF fs rs n f.toNat r.toNat (k + 1) := if_pos h5
  obtain ⟨i, j, rfl, rfl, hi, hj⟩ := gearB_t h2
  obtain ⟨t1, t2, t3⟩ := trB_t h1
  rw [e1, e2]
  exact spF_mono t3.1 (t1.2.at hi).1 (t2.2.at hj).1 h3.1 (by omega)
theorem cad_law {fs rs : List Int} {n f r k : Int} (h : cadE fs rs n f r k = 0) : (0 ≤ cadV fs rs n f r k ∧ cadV fs rs n f r k ≤ 200) ∧ spE fs rs n f r (cadV fs rs n f r k) = 0 ∧ k ≤ spV fs rs n f r (cadV fs rs n f r k) ∧
    (cadV fs rs n f r k ≠ 0 → spE fs rs n f r (cadV fs rs n f r k - 1) = 0 ∧ spV fs rs n f r (cadV fs rs n f r k - 1) < k) := by
  unfold cadE at h
  by_cases h0 : cd3 fs rs n f r k 200000 = 0
  · rw [if_pos h0] at h
    cases q : firstC (cadP fs rs n f.toNat r.toNat k) 201 0 with
    | none => rw [q] at h; simp at h
    | some c =>
      obtain ⟨a, b, c', d⟩ := firstC_is q
      have e : cadV fs rs n f r k = c := by unfold cadV; rw [if_pos h0, q]; rfl
      obtain ⟨h1, h2, h3⟩ := cd3_yes h0
      rw [e]
      have s1 : cd3 fs rs n f r c 200 = 0 := cd3_mk h1 h2 (by omega)
      refine ⟨by omega, s1, ?_, fun hc => ?_⟩
      · have e1 : spV fs rs n f r c = spF fs rs n f.toNat r.toNat c := if_pos s1
        rw [e1]; exact of_decide_eq_true c'
      · have s2 : cd3 fs rs n f r ((c : Int) - 1) 200 = 0 := cd3_mk h1 h2 (by omega)
        refine ⟨s2, ?_⟩
        have e1 : spV fs rs n f r ((c : Int) - 1) = spF fs rs n f.toNat r.toNat ((c : Int) - 1) := if_pos s2
        have := d (c - 1) (by omega) (by omega)
        have := of_decide_eq_false this
        rw [show ((c - 1 : Nat) : Int) = (c : Int) - 1 by omega] at this
        rw [e1]; omega
  · rw [if_neg h0] at h; exact absurd h h0
set_option maxRecDepth 20000 in
set_option maxHeartbeats 6400000 in
theorem FnSpeeds_walk (a : Option Addr) (c : Nat) (bs : List Int) (w : World) (h : U8At w a bs) : Calls Try.prog 3 #[.slice a bs.length c] w (RetT w) := by
  have HC := Lib.hid h
  clear h
  by_cases hl : bs.length ≤ 4096
  case neg =>
    go_enter Try.func3, Try.ntmps3
    go_wp2_with (go_at_call 6; refine (big_x _ _ _ _ hl).mono ?_; rintro e w' ⟨rfl, rfl⟩)
    go_ret
    exact ⟨rfl, Upd.refl _⟩
  go_enter Try.func3, Try.ntmps3
  go_wp2_with (go_at_call 6; refine (big_y _ _ _ _ hl).mono ?_; rintro e w' ⟨rfl, rfl⟩)
  refine (DrawCadenceFor_c a c bs _ HC.out hl).mono ?_
  rintro e wn ⟨p1, c1, p2, c2, fs, rs, n, f, r, sp, rfl, i1, i2, ⟨lf, lr⟩, hu⟩
  have U := Lib.hid hu
  replace HC : Hid (∀ w', Upd [] wn w' → U8At w' a bs) := fun w' u => (HC.out.kept0 hu).kept0 u
  clear hu
  have bX := Box.new wn (.slice p1 fs.length c1) (.slice p2 rs.length c2) (.int .i64 n) 26
  have uX : Upd [] wn (wn.alloc (.cells #[.slice p1 fs.length c1, .slice p2 rs.length c2, .int .i64 n] 26)) := (Upd.refl wn).alloc _
  have BX : Hid (∀ w', Upd [] (wn.alloc (.cells #[.slice p1 fs.length c1, .slice p2 rs.length c2, .int .i64 n] 26)) w' → Box w' wn.heap.size (.slice p1 fs.length c1) (.slice p2 rs.length c2) (.int .i64 n) 26 ∧ IntsAt w' p1 fs ∧ IntsAt w' p2 rs) := fun w' u => ⟨bX.kept u (by simp), (i1.kept0 uX).kept0 u, (i2.kept0 uX).kept0 u⟩
  have V : Hid (Upd [] (wn.alloc (.cells #[.slice p1 fs.length c1, .slice p2 rs.length c2, .int .i64 n] 26)) (wn.alloc (.cells #[.slice p1 fs.length c1, .slice p2 rs.length c2, .int .i64 n] 26))) := Upd.refl _
  replace U := Lib.hid (U.out.then0 uX)
  have HC := Lib.hid (fun w' u => HC.out w' (uX.then0 u))
  clear bX uX i1 i2
  obtain ⟨hb0, hb1, hb2⟩ := (BX.out _ V.out).1.cells
  go_wp2_with fail
  clear hb0 hb1 hb2
  generalize wn.heap.size = X_BX at BX ⊢
  generalize wn.alloc (.cells #[.slice p1 fs.length c1, .slice p2 rs.length c2, .int .i64 n] 26) = w_BX at BX V U HC ⊢
  refine (iCadenceFor_c p1 p2 c1 c2 fs rs n _ (BX.out _ V.out).2.1 (BX.out _ V.out).2.2 (by omega) (by omega) f r sp).mono ?_
  rintro e w3 ⟨rfl, hu⟩
  replace V := Lib.hid (V.out.then0 hu)
  clear hu
  obtain ⟨hb0, hb1, hb2⟩ := (BX.out _ V.out).1.cells
  go_wp2_with fail
  clear hb0 hb1 hb2
  refine (sCadenceFor_c p1 p2 c1 c2 fs rs n _ (BX.out _ V.out).2.1 (BX.out _ V.out).2.2 (by omega) (by omega) f r sp).mono ?_
  rintro e w4 ⟨rfl, hu⟩
  replace V := Lib.hid (V.out.then0 hu)
  clear hu
  have HCA := Lib.hid (@cad_law fs rs n f r sp)
  obtain ⟨C, hC⟩ : ∃ T, cadV fs rs n f r sp = T := ⟨_, rfl⟩
  obtain ⟨E1, hE1⟩ : ∃ T, cadE fs rs n f r sp = T := ⟨_, rfl⟩
  rw [hC, hE1] at HCA ⊢
  clear hC hE1
  go_wp2_with fail
  refine (DrawSpeedAt_c a c bs _ (HC.out _ V.out) hl).mono ?_
  rintro e wn ⟨q1, d1, q2, d2, gs, ss, m, f2, r2, k2, rfl, i1, i2, ⟨lf2, lr2⟩, hu⟩
  replace U := Lib.hid ((U.out.then0 V.out).then0 hu)
  replace BX := Lib.hid (fun w' u => BX.out w' ((V.out.then0 hu).then0 u))
  clear hu HC V hl
  have bX := Box.new wn (.slice q1 gs.length d1) (.slice q2 ss.length d2) (.int .i64 m) 26
  have uX : Upd [] wn (wn.alloc (.cells #[.slice q1 gs.length d1, .slice q2 ss.length d2, .int .i64 m] 26)) := (Upd.refl wn).alloc _
  have BY : Hid (∀ w', Upd [] (wn.alloc (.cells #[.slice q1 gs.length d1, .slice q2 ss.length d2, .int .i64 m] 26)) w' → Box w' wn.heap.size (.slice q1 gs.length d1) (.slice q2 ss.length d2) (.int .i64 m) 26 ∧ IntsAt w' q1 gs ∧ IntsAt w' q2 ss) := fun w' u => ⟨bX.kept u (by simp), (i1.kept0 uX).kept0 u, (i2.kept0 uX).kept0 u⟩
  have V : Hid (Upd [] (wn.alloc (.cells #[.slice q1 gs.length d1, .slice q2 ss.length d2, .int .i64 m] 26)) (wn.alloc (.cells #[.slice q1 gs.length d1, .slice q2 ss.length d2, .int .i64 m] 26))) := Upd.refl _
  replace U := Lib.hid (U.out.then0 uX)
  have BX := Lib.hid (fun w' u => BX.out w' (uX.then0 u))
  clear bX uX i1 i2
  obtain ⟨hb0, hb1, hb2⟩ := (BY.out _ V.out).1.cells
  go_wp2_with fail
  clear hb0 hb1 hb2
  generalize wn.heap.size = X_BY at BY ⊢
  generalize wn.alloc (.cells #[.slice q1 gs.length d1, .slice q2 ss.length d2, .int .i64 m] 26) = w_BY at BY V U BX ⊢
  refine (iSpeedAt_c q1 q2 d1 d2 gs ss m _ (BY.out _ V.out).2.1 (BY.out _ V.out).2.2 (by omega) (by omega) f2 r2 k2).mono ?_
  rintro e w5 ⟨rfl, hu⟩
  replace V := Lib.hid (V.out.then0 hu)
  clear hu
  obtain ⟨hb0, hb1, hb2⟩ := (BY.out _ V.out).1.cells
  go_wp2_with fail
  clear hb0 hb1 hb2
  refine (sSpeedAt_c q1 q2 d1 d2 gs ss m _ (BY.out _ V.out).2.1 (BY.out _ V.out).2.2 (by omega) (by omega) f2 r2 k2).mono ?_
  rintro e w6 ⟨rfl, hu⟩
  replace V := Lib.hid (V.out.then0 hu)
  clear hu
  have HSP := Lib.hid (@sp_law gs ss m f2 r2 k2)
  obtain ⟨S, hS⟩ : ∃ T, spV gs ss m f2 r2 k2 = T := ⟨_, rfl⟩
  obtain ⟨E2, hE2⟩ : ∃ T, spE gs ss m f2 r2 k2 = T := ⟨_, rfl⟩
  rw [hS, hE2] at HSP ⊢
  clear hS hE2
  go_upto_region 11 with fail
  obtain ⟨W, hW⟩ : ∃ x : World, x = w6 := ⟨_, rfl⟩
  subst hW
  have VV : Hid (Upd [] W W) := Upd.refl _
  replace U := Lib.hid (U.out.then0 V.out)
  replace BX := Lib.hid (fun w' u => BX.out w' (V.out.then0 u))
  replace BY := Lib.hid (fun w' u => BY.out w' (V.out.then0 u))
  clear V
  have V := VV
  clear VV
  go_cut [96] from 91 (fun v wx => ∃ b : Bool, v = .bool b ∧ Hid (b = true → E2 = 0 ∧ k2 < 200) ∧ wx = W)
  case first =>
    clear HSP HCA BX BY
    by_cases e2 : E2 = 0
    · subst e2
      by_cases hk : k2 < 200
      · go_wp2_with fail
        go_meet
        case rel => exact ⟨true, rfl, fun _ => ⟨by trivial, hk⟩, rfl⟩
      · go_wp2_with fail
        go_meet
        case rel => exact ⟨false, rfl, fun h => by simp at h, rfl⟩
    · go_wp2_with fail
      go_meet
      case rel => exact ⟨false, rfl, fun h => by simp at h, rfl⟩
  case rest =>
  obtain ⟨b, rfl, HBB, rfl⟩ := hcut
  go_upto_if 96 with fail
  go_cut [] from 96 (fun wx => Hid (Upd [] wc wx))
  case first =>
    clear HCA BX
    cases b
    case true =>
      · obtain ⟨e2, hk⟩ := HBB.out rfl
        subst e2
        obtain ⟨f1, f3, f4⟩ := HSP.out rfl hk
        have F1 := Lib.hid f1
        have hw1 : IntKind.i64.wrap (k2 + 1) = k2 + 1 := IntWalk.i64_in _ (by omega)
        obtain ⟨S2, hS2⟩ : ∃ T, spV gs ss m f2 r2 (k2 + 1) = T := ⟨_, rfl⟩
        have HS2 := Lib.hid hS2
        rw [hS2] at f3
        clear HSP f1 hS2
        obtain ⟨hb0, hb1, hb2⟩ := (BY.out _ V.out).1.cells
        go_wp2_with fail
        clear hb0 hb1 hb2
        refine (iSpeedAt_c q1 q2 d1 d2 gs ss m _ (BY.out _ V.out).2.1 (BY.out _ V.out).2.2 (by omega) (by omega) f2 r2 (k2 + 1)).mono ?_
        rintro e w7 ⟨rfl, hu⟩
        replace V := Lib.hid (V.out.then0 hu)
        clear hu
        rw [F1.out, HS2.out]
        go_wp2_with fail
        go_meet
        case rel => exact V
    case false =>
      clear HSP BY
      go_wp2_with fail
      go_meet
      case rel => exact V
  case rest =>
    clear HSP BY V
    have V := hcut
    clear hcut
    by_cases e1 : E1 = 0
    case neg =>
      clear HCA BX
      go_wp2_with fail
      go_ret
      exact ⟨rfl, U.out.then0 V.out⟩
    case pos =>
      subst e1
      obtain ⟨f1, f2', f3, f4⟩ := HCA.out rfl
      have F2 := Lib.hid f2'
      have F4 := Lib.hid f4
      obtain ⟨S2, hS2⟩ : ∃ T, spV fs rs n f r C = T := ⟨_, rfl⟩
      have HS2 := Lib.hid hS2
      rw [hS2] at f3
      clear HCA f2' f4 hS2
      obtain ⟨hb0, hb1, hb2⟩ := (BX.out _ V.out).1.cells
      go_wp2_with fail
      clear hb0 hb1 hb2
      refine (iSpeedAt_c p1 p2 c1 c2 fs rs n _ (BX.out _ V.out).2.1 (BX.out _ V.out).2.2 (by omega) (by omega) f r C).mono ?_
      rintro e w7 ⟨rfl, hu⟩
      replace V := Lib.hid (V.out.then0 hu)
      clear hu
      rw [F2.out, HS2.out]
      by_cases hc : C = 0
      · subst hc
        clear F4 BX
        go_wp2_with fail
        go_ret
        exact ⟨rfl, U.out.then0 V.out⟩
      · obtain ⟨g1, g2⟩ := F4.out hc
        have G1 := Lib.hid g1
        obtain ⟨S3, hS3⟩ : ∃ T, spV fs rs n f r (C - 1) = T := ⟨_, rfl⟩
        have HS3 := Lib.hid hS3
        rw [hS3] at g2
        have hw1 : IntKind.i64.wrap (C - 1) = C - 1 := IntWalk.i64_in _ (by omega)
        clear F4 g1 hS3
        obtain ⟨hb0, hb1, hb2⟩ := (BX.out _ V.out).1.cells
        go_wp2_with fail
        clear hb0 hb1 hb2
        refine (iSpeedAt_c p1 p2 c1 c2 fs rs n _ (BX.out _ V.out).2.1 (BX.out _ V.out).2.2 (by omega) (by omega) f r (C - 1)).mono ?_
        rintro e w8 ⟨rfl, hu⟩
        replace V := Lib.hid (V.out.then0 hu)
        clear hu
        rw [G1.out, HS3.out]
        clear BX
        go_wp2_with fail
        go_ret
        exact ⟨rfl, U.out.then0 V.out⟩
end Go.Proofs.Ytjnkckpebfafjaa
