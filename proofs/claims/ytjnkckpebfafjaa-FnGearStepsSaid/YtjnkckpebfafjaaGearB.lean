/- Chapter 9: ratios compared; the functions with numbers as answers. -/
import Derived.Test.YtjnkckpebfafjaaGearA
namespace Go.Proofs.Ytjnkckpebfafjaa
open Go.RowKit
set_option linter.unusedVariables false
set_option linter.unusedSimpArgs false

theorem pair_get {w : World} {a : Option Addr} {f r : Nat} (h : IntsAt w a [(f : Int), r]) :
    ∃ b off, a = some ⟨b, off, none⟩ ∧ w.cell? ⟨b, off, none⟩ = some (.int .i64 f) ∧ w.cell? ⟨b, off + 1, none⟩ = some (.int .i64 r) := by
  rcases h with h | ⟨b, off, e, hc⟩
  · simp at h
  · exact ⟨b, off, e, hc 0 _ (by simp), hc 1 _ (by simp)⟩
theorem tooth_at {w : World} {a : Option Addr} {xs : List Int} (h : IntsAt w a xs) {k : Nat} (hk : k < xs.length) : ∃ b off, a = some ⟨b, off, none⟩ ∧ w.cell? ⟨b, off + k, none⟩ = some (.int .i64 (tooth xs k)) := by
  obtain ⟨b, off, x, e, hc, hx⟩ := h.get hk
  exact ⟨b, off, e, by rw [tooth_get hx.out]; exact hc⟩
set_option maxHeartbeats 1600000 in
theorem compareRatios_c (a1 a2 : Option Addr) (c1 c2 : Nat) (fs rs : List Int) (n : Int) (w : World) (h1 : IntsAt w a1 fs) (h2 : IntsAt w a2 rs) (hl1 : fs.length ≤ 1048576) (hl2 : rs.length ≤ 1048576) (a b : Option Addr) (c d f1 r1 f2 r2 : Nat) (s : Int) (hs : cmpG fs rs (f1, r1) (f2, r2) = s) (hg : IntsAt w a [(f1 : Int), r1]) (hg2 : IntsAt w b [(f2 : Int), r2])
    (hf1 : f1 < fs.length) (hr1 : r1 < rs.length) (hf2 : f2 < fs.length) (hr2 : r2 < rs.length) (ht : TeethOk fs) (hu : TeethOk rs) :
    Calls Try.prog 50 #[.agg #[.slice a1 fs.length c1, .slice a2 rs.length c2, .int .i64 n], .slice a 2 c, .slice b 2 d] w fun e w' => e = .returned (.int .i64 s) ∧ Upd [] w w' := by
  have H : Hid (∀ w', Upd [] w w' → IntsAt w' a1 fs ∧ IntsAt w' a2 rs) := fun w' u => ⟨h1.kept0 u, h2.kept0 u⟩
  clear h1 h2
  have B0 := Lib.hid (Box.new w (.slice a1 fs.length c1) (.slice a2 rs.length c2) (.int .i64 n) 26)
  have U0 := Lib.hid ((Upd.refl w).alloc (.cells #[.slice a1 fs.length c1, .slice a2 rs.length c2, .int .i64 n] 26))
  have HS := Lib.hid hs
  clear hs
  obtain ⟨b1, o1, rfl, hx1, hy1⟩ := pair_get (hg.kept0 U0.out)
  obtain ⟨b2, o2, rfl, hx2, hy2⟩ := pair_get (hg2.kept0 U0.out)
  clear hg hg2
  obtain ⟨b3, o3, rfl, hc1⟩ := tooth_at (H.out _ U0.out).1 hf1
  obtain ⟨b4, o4, rfl, hd1⟩ := tooth_at (H.out _ U0.out).2 hr1
  obtain ⟨b5, o5, e, hc2⟩ := tooth_at (H.out _ U0.out).1 hf2
  cases e
  obtain ⟨b6, o6, e, hd2⟩ := tooth_at (H.out _ U0.out).2 hr2
  cases e
  have gf1 := ht.at hf1
  have gr1 := hu.at hr1
  have gf2 := ht.at hf2
  have gr2 := hu.at hr2
  have m1 := mul_box (a := tooth fs f1) (b := tooth rs r2) (A := 60) (B := 60) (by omega) (by omega)
  have m2 := mul_box (a := tooth fs f2) (b := tooth rs r1) (A := 60) (B := 60) (by omega) (by omega)
  have hw1 : IntKind.i64.wrap (tooth fs f1 * tooth rs r2) = tooth fs f1 * tooth rs r2 := IntWalk.i64_in _ (by omega)
  have hw2 : IntKind.i64.wrap (tooth fs f2 * tooth rs r1) = tooth fs f2 * tooth rs r1 := IntWalk.i64_in _ (by omega)
  have hw3 : IntKind.i64.wrap (tooth fs f1 * tooth rs r2 - tooth fs f2 * tooth rs r1) = tooth fs f1 * tooth rs r2 - tooth fs f2 * tooth rs r1 := IntWalk.i64_in _ (by omega)
  obtain ⟨hb0, hb1, hb2⟩ := B0.out.cells
  have i1 : (0 : Int) ≤ (f1 : Int) := by omega
  have i2 : (f1 : Int) < (fs.length : Int) := by omega
  have i3 : (0 : Int) ≤ (r1 : Int) := by omega
  have i4 : (r1 : Int) < (rs.length : Int) := by omega
  have i5 : (0 : Int) ≤ (f2 : Int) := by omega
  have i6 : (f2 : Int) < (fs.length : Int) := by omega
  have i7 : (0 : Int) ≤ (r2 : Int) := by omega
  have i8 : (r2 : Int) < (rs.length : Int) := by omega
  go_enter Try.func50, Try.ntmps50
  go_wp2_with fail
  go_quiet (fail)
  go_wp2
  go_ret
  exact ⟨by rw [← HS.out]; rfl, (U0.out).drewN _⟩
def sgnI (x : Int) : Int := if x < 0 then -1 else if 0 < x then 1 else 0
theorem sgnI_neg {x : Int} (h : x < 0) : sgnI x = -1 := if_pos h
theorem sgnI_pos {x : Int} (h : 0 < x) : sgnI x = 1 := by unfold sgnI; rw [if_neg (by omega), if_pos h]
theorem sgnI_zero {x : Int} (h : x = 0) : sgnI x = 0 := by subst h; rfl
theorem sgnI_le {x : Int} (h : x ≤ 0) : sgnI x ≤ 0 := by unfold sgnI; split <;> (try split) <;> omega
theorem sgnI_gt {x : Int} (h : 0 < x) : 0 < sgnI x := by rw [sgnI_pos h]; omega
set_option maxHeartbeats 1600000 in
theorem l09Compare_c (a1 a2 : Option Addr) (c1 c2 : Nat) (fs rs : List Int) (n : Int) (w : World) (h1 : IntsAt w a1 fs) (h2 : IntsAt w a2 rs) (hl1 : fs.length ≤ 1048576) (hl2 : rs.length ≤ 1048576) (a b : Option Addr) (c d f1 r1 f2 r2 : Nat) (s : Int) (hs : sgnI (cmpG fs rs (f1, r1) (f2, r2)) = s) (hg : IntsAt w a [(f1 : Int), r1]) (hg2 : IntsAt w b [(f2 : Int), r2])
    (hf1 : f1 < fs.length) (hr1 : r1 < rs.length) (hf2 : f2 < fs.length) (hr2 : r2 < rs.length) (ht : TeethOk fs) (hu : TeethOk rs) :
    Calls Try.prog 52 #[.agg #[.slice a1 fs.length c1, .slice a2 rs.length c2, .int .i64 n], .slice a 2 c, .slice b 2 d] w fun e w' => e = .returned (.int .i64 s) ∧ Upd [] w w' := by
  have H : Hid (∀ w', Upd [] w w' → IntsAt w' a1 fs ∧ IntsAt w' a2 rs) := fun w' u => ⟨h1.kept0 u, h2.kept0 u⟩
  clear h1 h2
  have B0 := Lib.hid (Box.new w (.slice a1 fs.length c1) (.slice a2 rs.length c2) (.int .i64 n) 26)
  have U0 := Lib.hid ((Upd.refl w).alloc (.cells #[.slice a1 fs.length c1, .slice a2 rs.length c2, .int .i64 n] 26))
  have HS : Hid (sgnI (tooth fs f1 * tooth rs r2 - tooth fs f2 * tooth rs r1) = s) := hs
  clear hs
  obtain ⟨b1, o1, rfl, hx1, hy1⟩ := pair_get (hg.kept0 U0.out)
  obtain ⟨b2, o2, rfl, hx2, hy2⟩ := pair_get (hg2.kept0 U0.out)
  clear hg hg2
  obtain ⟨b3, o3, rfl, hc1⟩ := tooth_at (H.out _ U0.out).1 hf1
  obtain ⟨b4, o4, rfl, hd1⟩ := tooth_at (H.out _ U0.out).2 hr1
  obtain ⟨b5, o5, e, hc2⟩ := tooth_at (H.out _ U0.out).1 hf2
  cases e
  obtain ⟨b6, o6, e, hd2⟩ := tooth_at (H.out _ U0.out).2 hr2
  cases e
  have gf1 := ht.at hf1
  have gr1 := hu.at hr1
  have gf2 := ht.at hf2
  have gr2 := hu.at hr2
  have m1 := mul_box (a := tooth fs f1) (b := tooth rs r2) (A := 60) (B := 60) (by omega) (by omega)
  have m2 := mul_box (a := tooth fs f2) (b := tooth rs r1) (A := 60) (B := 60) (by omega) (by omega)
  have hw1 : IntKind.i64.wrap (tooth fs f1 * tooth rs r2) = tooth fs f1 * tooth rs r2 := IntWalk.i64_in _ (by omega)
  have hw2 : IntKind.i64.wrap (tooth fs f2 * tooth rs r1) = tooth fs f2 * tooth rs r1 := IntWalk.i64_in _ (by omega)
  obtain ⟨hb0, hb1, hb2⟩ := B0.out.cells
  have i1 : (0 : Int) ≤ (f1 : Int) := by omega
  have i2 : (f1 : Int) < (fs.length : Int) := by omega
  have i3 : (0 : Int) ≤ (r1 : Int) := by omega
  have i4 : (r1 : Int) < (rs.length : Int) := by omega
  have i5 : (0 : Int) ≤ (f2 : Int) := by omega
  have i6 : (f2 : Int) < (fs.length : Int) := by omega
  have i7 : (0 : Int) ≤ (r2 : Int) := by omega
  have i8 : (r2 : Int) < (rs.length : Int) := by omega
  by_cases h1 : tooth fs f1 * tooth rs r2 < tooth fs f2 * tooth rs r1
  · have HN : Hid (s = -1) := by show _ = _; rw [← HS.out]; exact sgnI_neg (by omega)
    go_enter Try.func52, Try.ntmps52
    go_wp2_with fail
    go_quiet (fail)
    go_wp2
    go_ret
    exact ⟨ret_int HN.out.symm, (U0.out).drewN _⟩
  · by_cases h2 : tooth fs f2 * tooth rs r1 < tooth fs f1 * tooth rs r2
    · have HN : Hid (s = 1) := by show _ = _; rw [← HS.out]; exact sgnI_pos (by omega)
      go_enter Try.func52, Try.ntmps52
      go_wp2_with fail
      go_quiet (fail)
      go_wp2
      go_ret
      exact ⟨ret_int HN.out.symm, (U0.out).drewN _⟩
    · have HN : Hid (s = 0) := by show _ = _; rw [← HS.out]; exact sgnI_zero (by omega)
      go_enter Try.func52, Try.ntmps52
      go_wp2_with fail
      go_quiet (fail)
      go_wp2
      go_ret
      exact ⟨ret_int HN.out.symm, (U0.out).drewN _⟩
theorem teeth_ok {xs : List Int} {most : Nat} {lo hi : Int} (h : teethB xs most lo hi = true) (h1 : 1 ≤ lo) (h2 : hi ≤ 60) : (1 ≤ xs.length ∧ xs.length ≤ most) ∧ TeethOk xs := by
  obtain ⟨a, b, -⟩ := teethB_is h
  exact ⟨a, fun x hx => by have := allB_t b x hx; omega⟩
theorem trB_t {fs rs : List Int} {n : Int} (h : trB fs rs n = true) : ((1 ≤ fs.length ∧ fs.length ≤ 3) ∧ TeethOk fs) ∧ ((1 ≤ rs.length ∧ rs.length ≤ 12) ∧ TeethOk rs) ∧ 1000 ≤ n ∧ n ≤ 2500 := by
  simp only [trB, Bool.and_eq_true] at h
  exact ⟨teeth_ok h.1 (by omega) (by omega), teeth_ok h.2.1 (by omega) (by omega), inB_t h.2.2⟩
theorem gearB_t {F R : Nat} {f r : Int} (h : gearB F R f r = true) : ∃ i j : Nat, f = i ∧ r = j ∧ i < F ∧ j < R := by
  simp only [gearB, Bool.and_eq_true] at h
  have h1 := inB_t h.1
  have h2 := inB_t h.2
  exact ⟨f.toNat, r.toNat, by omega, by omega, by omega, by omega⟩
noncomputable def codeF (fs rs : List Int) (n f r : Int) : Int := if trB fs rs n then (if gearB fs.length rs.length f r then 0 else 2) else 1
set_option maxHeartbeats 800000 in
theorem l09Code_c (a1 a2 : Option Addr) (c1 c2 : Nat) (fs rs : List Int) (n : Int) (w : World) (h1 : IntsAt w a1 fs) (h2 : IntsAt w a2 rs) (hl1 : fs.length ≤ 1048576) (hl2 : rs.length ≤ 1048576) (f r : Int) :
    Calls Try.prog 38 #[.agg #[.slice a1 fs.length c1, .slice a2 rs.length c2, .int .i64 n], .int .i64 f, .int .i64 r] w fun e w' => e = .returned (.int .i64 (codeF fs rs n f r)) ∧ Upd [] w w' := by
  have H : Hid (∀ w', Upd [] w w' → IntsAt w' a1 fs ∧ IntsAt w' a2 rs) := fun w' u => ⟨h1.kept0 u, h2.kept0 u⟩
  clear h1 h2
  have B0 := Lib.hid (Box.new w (.slice a1 fs.length c1) (.slice a2 rs.length c2) (.int .i64 n) 26)
  have U0 := Lib.hid ((Upd.refl w).alloc (.cells #[.slice a1 fs.length c1, .slice a2 rs.length c2, .int .i64 n] 26))
  obtain ⟨hb0, hb1, hb2⟩ := B0.out.cells
  cases q : trB fs rs n
  · have HN : Hid (codeF fs rs n f r = 1) := by show _ = _; simp [codeF, q]
    go_enter Try.func38, Try.ntmps38
    go_wp2_with fail
    refine (sIsTrain_c a1 a2 _ _ fs rs _ _ (H.out _ U0.out).1 (H.out _ U0.out).2 hl1 hl2).mono ?_
    rintro e w1 ⟨rfl, u1⟩
    replace B0 := Lib.hid (B0.out.kept u1 (by simp))
    have U1 := Lib.hid (U0.out.then0 u1)
    clear u1 U0 hb0 hb1 hb2
    obtain ⟨hb0, hb1, hb2⟩ := B0.out.cells
    go_wp2_with fail
    go_ret
    exact ⟨ret_int HN.out.symm, U1.out⟩
  · cases q2 : gearB fs.length rs.length f r
    · have HN : Hid (codeF fs rs n f r = 2) := by show _ = _; simp [codeF, q, q2]
      go_enter Try.func38, Try.ntmps38
      go_wp2_with fail
      refine (sIsTrain_c a1 a2 _ _ fs rs _ _ (H.out _ U0.out).1 (H.out _ U0.out).2 hl1 hl2).mono ?_
      rintro e w1 ⟨rfl, u1⟩
      replace B0 := Lib.hid (B0.out.kept u1 (by simp))
      have U1 := Lib.hid (U0.out.then0 u1)
      clear u1 U0 hb0 hb1 hb2
      obtain ⟨hb0, hb1, hb2⟩ := B0.out.cells
      go_wp2_with fail
      refine (l09Gear_c a1 a2 _ _ fs rs _ _ (H.out _ U1.out).1 (H.out _ U1.out).2 hl1 hl2 _ _).mono ?_
      rintro e w2 ⟨rfl, u1⟩
      replace B0 := Lib.hid (B0.out.kept u1 (by simp))
      have U2 := Lib.hid (U1.out.then0 u1)
      clear u1 U1 hb0 hb1 hb2
      obtain ⟨hb0, hb1, hb2⟩ := B0.out.cells
      go_wp2_with fail
      go_ret
      exact ⟨ret_int HN.out.symm, U2.out⟩
    · have HN : Hid (codeF fs rs n f r = 0) := by show _ = _; simp [codeF, q, q2]
      go_enter Try.func38, Try.ntmps38
      go_wp2_with fail
      refine (sIsTrain_c a1 a2 _ _ fs rs _ _ (H.out _ U0.out).1 (H.out _ U0.out).2 hl1 hl2).mono ?_
      rintro e w1 ⟨rfl, u1⟩
      replace B0 := Lib.hid (B0.out.kept u1 (by simp))
      have U1 := Lib.hid (U0.out.then0 u1)
      clear u1 U0 hb0 hb1 hb2
      obtain ⟨hb0, hb1, hb2⟩ := B0.out.cells
      go_wp2_with fail
      refine (l09Gear_c a1 a2 _ _ fs rs _ _ (H.out _ U1.out).1 (H.out _ U1.out).2 hl1 hl2 _ _).mono ?_
      rintro e w2 ⟨rfl, u1⟩
      replace B0 := Lib.hid (B0.out.kept u1 (by simp))
      have U2 := Lib.hid (U1.out.then0 u1)
      clear u1 U1 hb0 hb1 hb2
      obtain ⟨hb0, hb1, hb2⟩ := B0.out.cells
      go_wp2_with fail
      go_ret
      exact ⟨ret_int HN.out.symm, U2.out⟩
noncomputable def devV (fs rs : List Int) (n f r : Int) : Int := if trB fs rs n && gearB fs.length rs.length f r then devF fs rs n (f.toNat, r.toNat) else 0
set_option maxHeartbeats 800000 in
theorem iDevelopmentOf_c (a1 a2 : Option Addr) (c1 c2 : Nat) (fs rs : List Int) (n : Int) (w : World) (h1 : IntsAt w a1 fs) (h2 : IntsAt w a2 rs) (hl1 : fs.length ≤ 1048576) (hl2 : rs.length ≤ 1048576) (f r : Int) :
    Calls Try.prog 19 #[.agg #[.slice a1 fs.length c1, .slice a2 rs.length c2, .int .i64 n], .int .i64 f, .int .i64 r] w fun e w' => e = .returned (.tuple #[.int .i64 (devV fs rs n f r), .int .i64 (codeF fs rs n f r)]) ∧ Upd [] w w' := by
  have H : Hid (∀ w', Upd [] w w' → IntsAt w' a1 fs ∧ IntsAt w' a2 rs) := fun w' u => ⟨h1.kept0 u, h2.kept0 u⟩
  clear h1 h2
  have B0 := Lib.hid (Box.new w (.slice a1 fs.length c1) (.slice a2 rs.length c2) (.int .i64 n) 26)
  have U0 := Lib.hid ((Upd.refl w).alloc (.cells #[.slice a1 fs.length c1, .slice a2 rs.length c2, .int .i64 n] 26))
  obtain ⟨hb0, hb1, hb2⟩ := B0.out.cells
  cases q : trB fs rs n
  · have HN : Hid (devV fs rs n f r = 0 ∧ codeF fs rs n f r = 1) := by constructor <;> simp [devV, codeF, q]
    go_enter Try.func19, Try.ntmps19
    go_wp2_with fail
    refine (iIsTrain_c a1 a2 _ _ fs rs _ _ (H.out _ U0.out).1 (H.out _ U0.out).2 hl1 hl2).mono ?_
    rintro e w1 ⟨rfl, u1⟩
    replace B0 := Lib.hid (B0.out.kept u1 (by simp))
    have U1 := Lib.hid (U0.out.then0 u1)
    clear u1 U0 hb0 hb1 hb2
    obtain ⟨hb0, hb1, hb2⟩ := B0.out.cells
    go_wp2_with fail
    go_ret2
    exact ⟨ret_int2 HN.out.1.symm HN.out.2.symm, U1.out⟩
  · cases q2 : gearB fs.length rs.length f r
    · have HN : Hid (devV fs rs n f r = 0 ∧ codeF fs rs n f r = 2) := by constructor <;> simp [devV, codeF, q, q2]
      go_enter Try.func19, Try.ntmps19
      go_wp2_with fail
      refine (iIsTrain_c a1 a2 _ _ fs rs _ _ (H.out _ U0.out).1 (H.out _ U0.out).2 hl1 hl2).mono ?_
      rintro e w1 ⟨rfl, u1⟩
      replace B0 := Lib.hid (B0.out.kept u1 (by simp))
      have U1 := Lib.hid (U0.out.then0 u1)
      clear u1 U0 hb0 hb1 hb2
      obtain ⟨hb0, hb1, hb2⟩ := B0.out.cells
      go_wp2_with fail
      refine (isGear_c a1 a2 _ _ fs rs _ _ (H.out _ U1.out).1 (H.out _ U1.out).2 hl1 hl2 _ _).mono ?_
      rintro e w2 ⟨rfl, u1⟩
      replace B0 := Lib.hid (B0.out.kept u1 (by simp))
      have U2 := Lib.hid (U1.out.then0 u1)
      clear u1 U1 hb0 hb1 hb2
      obtain ⟨hb0, hb1, hb2⟩ := B0.out.cells
      go_wp2_with fail
      go_ret2
      exact ⟨ret_int2 HN.out.1.symm HN.out.2.symm, U2.out⟩
    · obtain ⟨i, j, rfl, rfl, hi, hj⟩ := gearB_t q2
      obtain ⟨t1, t2, t3⟩ := trB_t q
      have HN : Hid (devV fs rs n i j = devF fs rs n (i, j) ∧ codeF fs rs n i j = 0) := by constructor <;> simp [devV, codeF, q, q2]
      go_enter Try.func19, Try.ntmps19
      go_wp2_with fail
      refine (iIsTrain_c a1 a2 _ _ fs rs _ _ (H.out _ U0.out).1 (H.out _ U0.out).2 hl1 hl2).mono ?_
      rintro e w1 ⟨rfl, u1⟩
      replace B0 := Lib.hid (B0.out.kept u1 (by simp))
      have U1 := Lib.hid (U0.out.then0 u1)
      clear u1 U0 hb0 hb1 hb2
      obtain ⟨hb0, hb1, hb2⟩ := B0.out.cells
      go_wp2_with fail
      refine (isGear_c a1 a2 _ _ fs rs _ _ (H.out _ U1.out).1 (H.out _ U1.out).2 hl1 hl2 _ _).mono ?_
      rintro e w2 ⟨rfl, u1⟩
      replace B0 := Lib.hid (B0.out.kept u1 (by simp))
      have U2 := Lib.hid (U1.out.then0 u1)
      clear u1 U1 hb0 hb1 hb2
      obtain ⟨hb0, hb1, hb2⟩ := B0.out.cells
      go_wp2_with fail
      refine (development_c a1 a2 _ _ fs rs _ _ (H.out _ U2.out).1 (H.out _ U2.out).2 hl1 hl2 i j hi hj t3 t1.2 t2.2).mono ?_
      rintro e w3 ⟨rfl, u1⟩
      replace B0 := Lib.hid (B0.out.kept u1 (by simp))
      have U3 := Lib.hid (U2.out.then0 u1)
      clear u1 U2 hb0 hb1 hb2
      obtain ⟨hb0, hb1, hb2⟩ := B0.out.cells
      go_wp2_with fail
      go_ret2
      exact ⟨ret_int2 HN.out.1.symm HN.out.2.symm, U3.out⟩
/-- The cells of a literal pair. -/
theorem pair_new (w : World) (f r : Nat) : IntsAt (w.alloc (.cells #[.int .i64 f, .int .i64 r] 2)) (some ⟨w.heap.size, 0, none⟩) [(f : Int), r] := by
  refine .inr ⟨_, 0, rfl, fun k x hx => ?_⟩
  rw [Nat.zero_add]
  match k, hx with
  | 0, hx => simp at hx; subst hx; exact Joins.cell_of_block (heap_alloc_new w _) 0
  | 1, hx => simp at hx; subst hx; exact Joins.cell_of_block (heap_alloc_new w _) 1
set_option maxHeartbeats 800000 in
theorem sDevelopmentOf_c (a1 a2 : Option Addr) (c1 c2 : Nat) (fs rs : List Int) (n : Int) (w : World) (h1 : IntsAt w a1 fs) (h2 : IntsAt w a2 rs) (hl1 : fs.length ≤ 1048576) (hl2 : rs.length ≤ 1048576) (f r : Int) :
    Calls Try.prog 20 #[.agg #[.slice a1 fs.length c1, .slice a2 rs.length c2, .int .i64 n], .int .i64 f, .int .i64 r] w fun e w' => e = .returned (.tuple #[.int .i64 (devV fs rs n f r), .int .i64 (codeF fs rs n f r)]) ∧ Upd [] w w' := by
  have H : Hid (∀ w', Upd [] w w' → IntsAt w' a1 fs ∧ IntsAt w' a2 rs) := fun w' u => ⟨h1.kept0 u, h2.kept0 u⟩
  clear h1 h2
  have B0 := Lib.hid (Box.new w (.slice a1 fs.length c1) (.slice a2 rs.length c2) (.int .i64 n) 26)
  have U0 := Lib.hid ((Upd.refl w).alloc (.cells #[.slice a1 fs.length c1, .slice a2 rs.length c2, .int .i64 n] 26))
  obtain ⟨hb0, hb1, hb2⟩ := B0.out.cells
  cases q : trB fs rs n
  · have HN : Hid (devV fs rs n f r = 0 ∧ codeF fs rs n f r = 1) := by constructor <;> simp [devV, codeF, q]
    go_enter Try.func20, Try.ntmps20
    go_wp2_with fail
    refine (l09Code_c a1 a2 _ _ fs rs _ _ (H.out _ U0.out).1 (H.out _ U0.out).2 hl1 hl2 _ _).mono ?_
    rintro e w1 ⟨rfl, u1⟩
    replace B0 := Lib.hid (B0.out.kept u1 (by simp))
    have U1 := Lib.hid (U0.out.then0 u1)
    clear u1 U0 hb0 hb1 hb2
    obtain ⟨hb0, hb1, hb2⟩ := B0.out.cells
    rw [HN.out.2]
    go_wp2_with fail
    go_ret2
    exact ⟨ret_int2 HN.out.1.symm HN.out.2.symm, U1.out⟩
  · cases q2 : gearB fs.length rs.length f r
    · have HN : Hid (devV fs rs n f r = 0 ∧ codeF fs rs n f r = 2) := by constructor <;> simp [devV, codeF, q, q2]
      go_enter Try.func20, Try.ntmps20
      go_wp2_with fail
      refine (l09Code_c a1 a2 _ _ fs rs _ _ (H.out _ U0.out).1 (H.out _ U0.out).2 hl1 hl2 _ _).mono ?_
      rintro e w1 ⟨rfl, u1⟩
      replace B0 := Lib.hid (B0.out.kept u1 (by simp))
      have U1 := Lib.hid (U0.out.then0 u1)
      clear u1 U0 hb0 hb1 hb2
      obtain ⟨hb0, hb1, hb2⟩ := B0.out.cells
      rw [HN.out.2]
      go_wp2_with fail
      go_ret2
      exact ⟨ret_int2 HN.out.1.symm HN.out.2.symm, U1.out⟩
    · obtain ⟨i, j, rfl, rfl, hi, hj⟩ := gearB_t q2
      obtain ⟨t1, t2, t3⟩ := trB_t q
      have HN : Hid (devV fs rs n i j = devF fs rs n (i, j) ∧ codeF fs rs n i j = 0) := by constructor <;> simp [devV, codeF, q, q2]
      go_enter Try.func20, Try.ntmps20
      go_wp2_with fail
      refine (l09Code_c a1 a2 _ _ fs rs _ _ (H.out _ U0.out).1 (H.out _ U0.out).2 hl1 hl2 _ _).mono ?_
      rintro e w1 ⟨rfl, u1⟩
      replace B0 := Lib.hid (B0.out.kept u1 (by simp))
      have U1 := Lib.hid (U0.out.then0 u1)
      clear u1 U0 hb0 hb1 hb2
      obtain ⟨hb0, hb1, hb2⟩ := B0.out.cells
      rw [HN.out.2]
      have HP := Lib.hid (pair_new w1 i j)
      have U2 := Lib.hid (U1.out.alloc (.cells #[.int .i64 i, .int .i64 j] 2))
      go_wp2_with fail
      refine (l09Development_c a1 a2 _ _ fs rs _ _ (H.out _ U2.out).1 (H.out _ U2.out).2 hl1 hl2 _ _ i j HP.out hi hj t3 t1.2 t2.2).mono ?_
      rintro e w3 ⟨rfl, u1⟩
      have U3 := Lib.hid (U2.out.then0 u1)
      clear u1 U2 hb0 hb1 hb2
      go_wp2_with fail
      go_ret2
      exact ⟨ret_int2 HN.out.1.symm HN.out.2.symm, U3.out⟩
end Go.Proofs.Ytjnkckpebfafjaa
