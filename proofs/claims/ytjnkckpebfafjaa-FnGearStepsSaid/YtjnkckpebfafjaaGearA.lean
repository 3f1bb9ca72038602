/- Chapter 9: is there a gear; development, speed, ratios. -/
import Derived.Test.YtjnkckpebfafjaaIsTrain
import Derived.Test.YtjnkckpebfafjaaGearL
namespace Go.Proofs.Ytjnkckpebfafjaa
open Go.RowKit
set_option linter.unusedVariables false
set_option linter.unusedSimpArgs false

def gearB (F R : Nat) (f r : Int) : Bool := inB f 0 ((F : Int) - 1) && inB r 0 ((R : Int) - 1)
theorem mul_box {a b A B : Int} (h1 : 0 ≤ a ∧ a ≤ A) (h2 : 0 ≤ b ∧ b ≤ B) : 0 ≤ a * b ∧ a * b ≤ A * B :=
  ⟨Int.mul_nonneg h1.1 h2.1, Int.le_trans (Int.mul_le_mul_of_nonneg_right h1.2 h2.1) (Int.mul_le_mul_of_nonneg_left h2.2 (by omega))⟩
theorem tooth_get {xs : List Int} {k : Nat} {x : Int} (h : xs[k]? = some x) : tooth xs k = x := by unfold tooth; rw [List.getD_eq_getElem?_getD, h]; rfl
theorem isGear_c (a1 a2 : Option Addr) (c1 c2 : Nat) (fs rs : List Int) (n : Int) (w : World) (h1 : IntsAt w a1 fs) (h2 : IntsAt w a2 rs) (hl1 : fs.length ≤ 1048576) (hl2 : rs.length ≤ 1048576) (f r : Int) :
    Calls Try.prog 35 #[.agg #[.slice a1 fs.length c1, .slice a2 rs.length c2, .int .i64 n], .int .i64 f, .int .i64 r] w fun e w' => e = .returned (.bool (gearB fs.length rs.length f r)) ∧ Upd [] w w' := by
  have H : Hid (∀ w', Upd [] w w' → IntsAt w' a1 fs ∧ IntsAt w' a2 rs) := fun w' u => ⟨h1.kept0 u, h2.kept0 u⟩
  clear h1 h2
  have B0 := Lib.hid (Box.new w (.slice a1 fs.length c1) (.slice a2 rs.length c2) (.int .i64 n) 26)
  have U0 := Lib.hid ((Upd.refl w).alloc (.cells #[.slice a1 fs.length c1, .slice a2 rs.length c2, .int .i64 n] 26))
  cases q : inB f 0 ((fs.length : Int) - 1)
  · have HN : Hid (gearB fs.length rs.length f r = false) := by show _ = _; simp [gearB, q]
    obtain ⟨hb0, hb1, hb2⟩ := B0.out.cells
    go_enter Try.func35, Try.ntmps35
    go_wp2_with (go_at_call 36; refine (within_c _ _ _ _).mono ?_; rintro e w' ⟨rfl, rfl⟩)
    go_ret
    exact ⟨ret_bool HN.out.symm, U0.out⟩
  · have HN : Hid (gearB fs.length rs.length f r = inB r 0 ((rs.length : Int) - 1)) := by show _ = _; simp [gearB, q]
    obtain ⟨hb0, hb1, hb2⟩ := B0.out.cells
    go_enter Try.func35, Try.ntmps35
    go_wp2_with (go_at_call 36; refine (within_c _ _ _ _).mono ?_; rintro e w' ⟨rfl, rfl⟩)
    go_ret
    exact ⟨ret_bool HN.out.symm, U0.out⟩
theorem l09Gear_c (a1 a2 : Option Addr) (c1 c2 : Nat) (fs rs : List Int) (n : Int) (w : World) (h1 : IntsAt w a1 fs) (h2 : IntsAt w a2 rs) (hl1 : fs.length ≤ 1048576) (hl2 : rs.length ≤ 1048576) (f r : Int) :
    Calls Try.prog 53 #[.agg #[.slice a1 fs.length c1, .slice a2 rs.length c2, .int .i64 n], .int .i64 f, .int .i64 r] w fun e w' => e = .returned (.bool (gearB fs.length rs.length f r)) ∧ Upd [] w w' := by
  have H : Hid (∀ w', Upd [] w w' → IntsAt w' a1 fs ∧ IntsAt w' a2 rs) := fun w' u => ⟨h1.kept0 u, h2.kept0 u⟩
  clear h1 h2
  have B0 := Lib.hid (Box.new w (.slice a1 fs.length c1) (.slice a2 rs.length c2) (.int .i64 n) 26)
  have U0 := Lib.hid ((Upd.refl w).alloc (.cells #[.slice a1 fs.length c1, .slice a2 rs.length c2, .int .i64 n] 26))
  cases q : inB f 0 ((fs.length : Int) - 1)
  · have HN : Hid (gearB fs.length rs.length f r = false) := by show _ = _; simp [gearB, q]
    obtain ⟨hb0, hb1, hb2⟩ := B0.out.cells
    go_enter Try.func53, Try.ntmps53
    go_wp2_with (go_at_call 39; refine (l01In_c _ _ _ _).mono ?_; rintro e w' ⟨rfl, rfl⟩)
    go_ret
    exact ⟨ret_bool HN.out.symm, U0.out⟩
  · have HN : Hid (gearB fs.length rs.length f r = inB r 0 ((rs.length : Int) - 1)) := by show _ = _; simp [gearB, q]
    obtain ⟨hb0, hb1, hb2⟩ := B0.out.cells
    go_enter Try.func53, Try.ntmps53
    go_wp2_with (go_at_call 39; refine (l01In_c _ _ _ _).mono ?_; rintro e w' ⟨rfl, rfl⟩)
    go_ret
    exact ⟨ret_bool HN.out.symm, U0.out⟩
/-- The development of a gear that is there. -/
def devF (fs rs : List Int) (n : Int) (e : Nat × Nat) : Int := nearF (n * tooth fs e.1) (tooth rs e.2)
set_option maxHeartbeats 800000 in
theorem development_c (a1 a2 : Option Addr) (c1 c2 : Nat) (fs rs : List Int) (n : Int) (w : World) (h1 : IntsAt w a1 fs) (h2 : IntsAt w a2 rs) (hl1 : fs.length ≤ 1048576) (hl2 : rs.length ≤ 1048576) (f r : Nat) (hf : f < fs.length) (hr : r < rs.length) (hn : 1000 ≤ n ∧ n ≤ 2500) (ht : TeethOk fs) (hu : TeethOk rs) :
    Calls Try.prog 44 #[.agg #[.slice a1 fs.length c1, .slice a2 rs.length c2, .int .i64 n], .int .i64 f, .int .i64 r] w fun e w' => e = .returned (.int .i64 (devF fs rs n (f, r))) ∧ Upd [] w w' := by
  have H : Hid (∀ w', Upd [] w w' → IntsAt w' a1 fs ∧ IntsAt w' a2 rs) := fun w' u => ⟨h1.kept0 u, h2.kept0 u⟩
  clear h1 h2
  have B0 := Lib.hid (Box.new w (.slice a1 fs.length c1) (.slice a2 rs.length c2) (.int .i64 n) 26)
  have U0 := Lib.hid ((Upd.refl w).alloc (.cells #[.slice a1 fs.length c1, .slice a2 rs.length c2, .int .i64 n] 26))
  obtain ⟨b, off, x, rfl, hc, hx⟩ := (H.out _ U0.out).1.get hf
  obtain ⟨b', off', y, rfl, hd, hy⟩ := (H.out _ U0.out).2.get hr
  have gx := ht.at hf
  have gy := hu.at hr
  have HE : Hid (devF fs rs n (f, r) = nearF (n * x) y) := by show _ = _; simp only [devF]; rw [tooth_get hx.out, tooth_get hy.out]
  rw [tooth_get hx.out] at gx
  rw [tooth_get hy.out] at gy
  have gm := mul_box (a := n) (b := x) (A := 2500) (B := 60) (by omega) (by omega)
  have HB1 : Hid (-2000000000000000000 ≤ n * x ∧ n * x ≤ 2000000000000000000) := by constructor <;> omega
  have HB2 : Hid (1 ≤ y ∧ y ≤ 2000000000000000000) := by constructor <;> omega
  obtain ⟨hb0, hb1, hb2⟩ := B0.out.cells
  have i1 : (0 : Int) ≤ (f : Int) := by omega
  have i2 : (f : Int) < (fs.length : Int) := by omega
  have i3 : (0 : Int) ≤ (r : Int) := by omega
  have i4 : (r : Int) < (rs.length : Int) := by omega
  have hw : IntKind.i64.wrap (n * x) = n * x := IntWalk.i64_in _ (by omega)
  go_enter Try.func44, Try.ntmps44
  go_wp2_with fail
  go_quiet ((go_at_call 55; exact quiet0 (nearest_c _ _ _ HB1.out HB2.out)))
  go_wp2
  go_ret
  exact ⟨ret_int HE.out.symm, (U0.out).drewN _⟩
set_option maxHeartbeats 800000 in
theorem l09Development_c (a1 a2 : Option Addr) (c1 c2 : Nat) (fs rs : List Int) (n : Int) (w : World) (h1 : IntsAt w a1 fs) (h2 : IntsAt w a2 rs) (hl1 : fs.length ≤ 1048576) (hl2 : rs.length ≤ 1048576) (a : Option Addr) (c f r : Nat) (hg : IntsAt w a [(f : Int), r]) (hf : f < fs.length) (hr : r < rs.length) (hn : 1000 ≤ n ∧ n ≤ 2500) (ht : TeethOk fs) (hu : TeethOk rs) :
    Calls Try.prog 48 #[.agg #[.slice a1 fs.length c1, .slice a2 rs.length c2, .int .i64 n], .slice a 2 c] w fun e w' => e = .returned (.int .i64 (devF fs rs n (f, r))) ∧ Upd [] w w' := by
  have H : Hid (∀ w', Upd [] w w' → IntsAt w' a1 fs ∧ IntsAt w' a2 rs) := fun w' u => ⟨h1.kept0 u, h2.kept0 u⟩
  clear h1 h2
  have B0 := Lib.hid (Box.new w (.slice a1 fs.length c1) (.slice a2 rs.length c2) (.int .i64 n) 26)
  have U0 := Lib.hid ((Upd.refl w).alloc (.cells #[.slice a1 fs.length c1, .slice a2 rs.length c2, .int .i64 n] 26))
  have HG : Hid (IntsAt (w.alloc (.cells #[.slice a1 fs.length c1, .slice a2 rs.length c2, .int .i64 n] 26)) a [(f : Int), r]) := hg.kept0 U0.out
  clear hg
  obtain ⟨b, off, x, rfl, hc, hx⟩ := (H.out _ U0.out).1.get hf
  obtain ⟨b', off', y, rfl, hd, hy⟩ := (H.out _ U0.out).2.get hr
  obtain ⟨b3, o3, z0, rfl, hg0, hz0⟩ := HG.out.get (k := 0) (by simp)
  obtain ⟨b4, o4, z1, e4, hg1, hz1⟩ := HG.out.get (k := 1) (by simp)
  cases e4
  obtain rfl : (f : Int) = z0 := by simpa using hz0.out
  obtain rfl : (r : Int) = z1 := by simpa using hz1.out
  rw [Nat.add_zero] at hg0
  have gx := ht.at hf
  have gy := hu.at hr
  have HE : Hid (devF fs rs n (f, r) = nearF (n * x) y) := by show _ = _; simp only [devF]; rw [tooth_get hx.out, tooth_get hy.out]
  rw [tooth_get hx.out] at gx
  rw [tooth_get hy.out] at gy
  have gm := mul_box (a := n) (b := x) (A := 2500) (B := 60) (by omega) (by omega)
  have HB1 : Hid (-2000000000000000000 ≤ n * x ∧ n * x ≤ 2000000000000000000) := by constructor <;> omega
  have HB2 : Hid (1 ≤ y ∧ y ≤ 2000000000000000000) := by constructor <;> omega
  obtain ⟨hb0, hb1, hb2⟩ := B0.out.cells
  have i1 : (0 : Int) ≤ (f : Int) := by omega
  have i2 : (f : Int) < (fs.length : Int) := by omega
  have i3 : (0 : Int) ≤ (r : Int) := by omega
  have i4 : (r : Int) < (rs.length : Int) := by omega
  have hw : IntKind.i64.wrap (n * x) = n * x := IntWalk.i64_in _ (by omega)
  go_enter Try.func48, Try.ntmps48
  go_wp2_with fail
  go_quiet ((go_at_call 57; exact quiet0 (l01Nearest_c _ _ _ HB1.out HB2.out)))
  go_wp2
  go_ret
  exact ⟨ret_int HE.out.symm, (U0.out).drewN _⟩
/-- The speed of a gear that is there. -/
def spF (fs rs : List Int) (n : Int) (f r : Nat) (k : Int) : Int := (60 * k * n * tooth fs f).tdiv (1000 * tooth rs r)
set_option maxHeartbeats 800000 in
theorem speed_c (a1 a2 : Option Addr) (c1 c2 : Nat) (fs rs : List Int) (n : Int) (w : World) (h1 : IntsAt w a1 fs) (h2 : IntsAt w a2 rs) (hl1 : fs.length ≤ 1048576) (hl2 : rs.length ≤ 1048576) (f r : Nat) (k : Int) (hf : f < fs.length) (hr : r < rs.length) (hn : 1000 ≤ n ∧ n ≤ 2500) (ht : TeethOk fs) (hu : TeethOk rs) (hk : 0 ≤ k ∧ k ≤ 200) :
    Calls Try.prog 37 #[.agg #[.slice a1 fs.length c1, .slice a2 rs.length c2, .int .i64 n], .int .i64 f, .int .i64 r, .int .i64 k] w fun e w' => e = .returned (.int .i64 (spF fs rs n f r k)) ∧ Upd [] w w' := by
  have H : Hid (∀ w', Upd [] w w' → IntsAt w' a1 fs ∧ IntsAt w' a2 rs) := fun w' u => ⟨h1.kept0 u, h2.kept0 u⟩
  clear h1 h2
  have B0 := Lib.hid (Box.new w (.slice a1 fs.length c1) (.slice a2 rs.length c2) (.int .i64 n) 26)
  have U0 := Lib.hid ((Upd.refl w).alloc (.cells #[.slice a1 fs.length c1, .slice a2 rs.length c2, .int .i64 n] 26))
  obtain ⟨b, off, x, rfl, hc, hx⟩ := (H.out _ U0.out).1.get hf
  obtain ⟨b', off', y, rfl, hd, hy⟩ := (H.out _ U0.out).2.get hr
  have gx := ht.at hf
  have gy := hu.at hr
  have HE : Hid (spF fs rs n f r k = (60 * k * n * x).tdiv (1000 * y)) := by show _ = _; simp only [spF]; rw [tooth_get hx.out, tooth_get hy.out]
  rw [tooth_get hx.out] at gx
  rw [tooth_get hy.out] at gy
  have g1 := mul_box (a := 60 * k) (b := n) (A := 12000) (B := 2500) (by omega) (by omega)
  have g2 := mul_box (a := 60 * k * n) (b := x) (A := 12000 * 2500) (B := 60) (by omega) (by omega)
  obtain ⟨hb0, hb1, hb2⟩ := B0.out.cells
  have i1 : (0 : Int) ≤ (f : Int) := by omega
  have i2 : (f : Int) < (fs.length : Int) := by omega
  have i3 : (0 : Int) ≤ (r : Int) := by omega
  have i4 : (r : Int) < (rs.length : Int) := by omega
  have i5 : ¬ (1000 * y = 0) := by omega
  have g3 := tdiv_bd (60 * k * n * x) (1000 * y) 1800000000 (by omega) (by omega)
  have hw1 : IntKind.i64.wrap (60 * k) = 60 * k := IntWalk.i64_in _ (by omega)
  have hw2 : IntKind.i64.wrap (60 * k * n) = 60 * k * n := IntWalk.i64_in _ (by omega)
  have hw3 : IntKind.i64.wrap (60 * k * n * x) = 60 * k * n * x := IntWalk.i64_in _ (by omega)
  have hw4 : IntKind.i64.wrap (1000 * y) = 1000 * y := IntWalk.i64_in _ (by omega)
  have hw5 : IntKind.i64.wrap ((60 * k * n * x).tdiv (1000 * y)) = (60 * k * n * x).tdiv (1000 * y) := IntWalk.i64_in _ (by omega)
  go_enter Try.func37, Try.ntmps37
  go_wp2_with fail
  go_quiet (fail)
  go_wp2
  go_ret
  exact ⟨ret_int HE.out.symm, (U0.out).drewN _⟩
set_option maxHeartbeats 800000 in
theorem l09Speed_c (a1 a2 : Option Addr) (c1 c2 : Nat) (fs rs : List Int) (n : Int) (w : World) (h1 : IntsAt w a1 fs) (h2 : IntsAt w a2 rs) (hl1 : fs.length ≤ 1048576) (hl2 : rs.length ≤ 1048576) (f r : Nat) (k : Int) (hf : f < fs.length) (hr : r < rs.length) (hn : 1000 ≤ n ∧ n ≤ 2500) (ht : TeethOk fs) (hu : TeethOk rs) (hk : 0 ≤ k ∧ k ≤ 200) :
    Calls Try.prog 40 #[.agg #[.slice a1 fs.length c1, .slice a2 rs.length c2, .int .i64 n], .int .i64 f, .int .i64 r, .int .i64 k] w fun e w' => e = .returned (.int .i64 (spF fs rs n f r k)) ∧ Upd [] w w' := by
  have H : Hid (∀ w', Upd [] w w' → IntsAt w' a1 fs ∧ IntsAt w' a2 rs) := fun w' u => ⟨h1.kept0 u, h2.kept0 u⟩
  clear h1 h2
  have B0 := Lib.hid (Box.new w (.slice a1 fs.length c1) (.slice a2 rs.length c2) (.int .i64 n) 26)
  have U0 := Lib.hid ((Upd.refl w).alloc (.cells #[.slice a1 fs.length c1, .slice a2 rs.length c2, .int .i64 n] 26))
  obtain ⟨b, off, x, rfl, hc, hx⟩ := (H.out _ U0.out).1.get hf
  obtain ⟨b', off', y, rfl, hd, hy⟩ := (H.out _ U0.out).2.get hr
  have gx := ht.at hf
  have gy := hu.at hr
  have HE : Hid (spF fs rs n f r k = (60 * k * n * x).tdiv (1000 * y)) := by show _ = _; simp only [spF]; rw [tooth_get hx.out, tooth_get hy.out]
  rw [tooth_get hx.out] at gx
  rw [tooth_get hy.out] at gy
  have g1 := mul_box (a := 60 * k) (b := n) (A := 12000) (B := 2500) (by omega) (by omega)
  have g2 := mul_box (a := 60 * k * n) (b := x) (A := 12000 * 2500) (B := 60) (by omega) (by omega)
  obtain ⟨hb0, hb1, hb2⟩ := B0.out.cells
  have i1 : (0 : Int) ≤ (f : Int) := by omega
  have i2 : (f : Int) < (fs.length : Int) := by omega
  have i3 : (0 : Int) ≤ (r : Int) := by omega
  have i4 : (r : Int) < (rs.length : Int) := by omega
  have i5 : ¬ (1000 * y = 0) := by omega
  have g3 := tdiv_bd (60 * k * n * x) (1000 * y) 1800000000 (by omega) (by omega)
  have hw1 : IntKind.i64.wrap (60 * k) = 60 * k := IntWalk.i64_in _ (by omega)
  have hw2 : IntKind.i64.wrap (60 * k * n) = 60 * k * n := IntWalk.i64_in _ (by omega)
  have hw3 : IntKind.i64.wrap (60 * k * n * x) = 60 * k * n * x := IntWalk.i64_in _ (by omega)
  have hw4 : IntKind.i64.wrap (1000 * y) = 1000 * y := IntWalk.i64_in _ (by omega)
  have hw5 : IntKind.i64.wrap ((60 * k * n * x).tdiv (1000 * y)) = (60 * k * n * x).tdiv (1000 * y) := IntWalk.i64_in _ (by omega)
  go_enter Try.func40, Try.ntmps40
  go_wp2_with fail
  go_quiet (fail)
  go_wp2
  go_ret
  exact ⟨ret_int HE.out.symm, (U0.out).drewN _⟩
end Go.Proofs.Ytjnkckpebfafjaa
