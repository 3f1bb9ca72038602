/- Chapter 9: speeds, the least cadence, the range. -/
import Derived.Test.YtjnkckpebfafjaaGearB
namespace Go.Proofs.Ytjnkckpebfafjaa
open Go.RowKit
set_option linter.unusedVariables false
set_option linter.unusedSimpArgs false

noncomputable def cd3 (fs rs : List Int) (n f r k lim : Int) : Int := if trB fs rs n then (if gearB fs.length rs.length f r then (if inB k 0 lim then 0 else 2) else 2) else 1
noncomputable def spE (fs rs : List Int) (n f r k : Int) : Int := cd3 fs rs n f r k 200
noncomputable def spV (fs rs : List Int) (n f r k : Int) : Int := if cd3 fs rs n f r k 200 = 0 then spF fs rs n f.toNat r.toNat k else 0
/-- The first that passes. -/
def firstC (p : Nat → Bool) : Nat → Nat → Option Nat
  | 0, _ => none
  | m + 1, k => if p k then some k else firstC p m (k + 1)
theorem firstC_t {p : Nat → Bool} {m k : Nat} (hm : 0 < m) (h : p k = true) : firstC p m k = some k := by
  obtain ⟨m, rfl⟩ : ∃ x, m = x + 1 := ⟨m - 1, by omega⟩
  simp [firstC, h]
theorem firstC_f {p : Nat → Bool} {m k : Nat} (hm : 0 < m) (h : p k = false) : firstC p m k = firstC p (m - 1) (k + 1) := by
  obtain ⟨m, rfl⟩ : ∃ x, m = x + 1 := ⟨m - 1, by omega⟩
  simp [firstC, h]
theorem firstC_is {p : Nat → Bool} {m k c : Nat} (h : firstC p m k = some c) : k ≤ c ∧ c < k + m ∧ p c = true ∧ ∀ j, k ≤ j → j < c → p j = false := by
  induction m generalizing k with
  | zero => simp [firstC] at h
  | succ m ih =>
    simp only [firstC] at h
    split at h
    · rename_i hp
      simp only [Option.some.injEq] at h; subst h
      exact ⟨Nat.le_refl _, by omega, hp, fun j h1 h2 => by omega⟩
    · rename_i hp
      obtain ⟨a, b, c', d⟩ := ih h
      refine ⟨by omega, by omega, c', fun j h1 h2 => ?_⟩
      by_cases e : j = k
      · subst e; simpa using hp
      · exact d j (by omega) h2
def cadP (fs rs : List Int) (n : Int) (f r : Nat) (want : Int) (k : Nat) : Bool := decide (want ≤ spF fs rs n f r k)
noncomputable def cadV (fs rs : List Int) (n f r k : Int) : Int := if cd3 fs rs n f r k 200000 = 0 then (((firstC (cadP fs rs n f.toNat r.toNat k) 201 0).getD 0 : Nat) : Int) else 0
noncomputable def cadE (fs rs : List Int) (n f r k : Int) : Int := if cd3 fs rs n f r k 200000 = 0 then (if (firstC (cadP fs rs n f.toNat r.toNat k) 201 0).isSome then 0 else 4) else cd3 fs rs n f r k 200000
noncomputable def rgV (fs rs : List Int) (n : Int) : Int := if trB fs rs n then (100 * tooth fs (fs.length - 1) * tooth rs (rs.length - 1)).tdiv (tooth fs 0 * tooth rs 0) else 0
noncomputable def rgE (fs rs : List Int) (n : Int) : Int := if trB fs rs n then 0 else 1

set_option maxHeartbeats 1600000 in
theorem iSpeedAt_c (a1 a2 : Option Addr) (c1 c2 : Nat) (fs rs : List Int) (n : Int) (w : World) (h1 : IntsAt w a1 fs) (h2 : IntsAt w a2 rs) (hl1 : fs.length ≤ 1048576) (hl2 : rs.length ≤ 1048576) (f r k : Int) :
    Calls Try.prog 11 #[.agg #[.slice a1 fs.length c1, .slice a2 rs.length c2, .int .i64 n], .int .i64 f, .int .i64 r, .int .i64 k] w fun e w' => e = .returned (.tuple #[.int .i64 (spV fs rs n f r k), .int .i64 (spE fs rs n f r k)]) ∧ Upd [] w w' := by
  have H : Hid (∀ w', Upd [] w w' → IntsAt w' a1 fs ∧ IntsAt w' a2 rs) := fun w' u => ⟨h1.kept0 u, h2.kept0 u⟩
  clear h1 h2
  have B0 := Lib.hid (Box.new w (.slice a1 fs.length c1) (.slice a2 rs.length c2) (.int .i64 n) 26)
  have U0 := Lib.hid ((Upd.refl w).alloc (.cells #[.slice a1 fs.length c1, .slice a2 rs.length c2, .int .i64 n] 26))
  obtain ⟨hb0, hb1, hb2⟩ := B0.out.cells
  cases q : trB fs rs n
  · skip
    have HN : Hid (spV fs rs n f r k = 0 ∧ spE fs rs n f r k = 1) := by constructor <;> simp [spV, spE, cd3, q]
    go_enter Try.func11, Try.ntmps11
    go_wp2_with fail
    refine (iIsTrain_c a1 a2 _ _ fs rs _ _ (H.out _ U0.out).1 (H.out _ U0.out).2 hl1 hl2).mono ?_
    rintro e w1 ⟨rfl, u1⟩
    replace B0 := Lib.hid (B0.out.kept u1 (by simp))
    have U1 := Lib.hid (U0.out.then0 u1)
    clear u1 U0 hb0 hb1 hb2
    obtain ⟨hb0, hb1, hb2⟩ := B0.out.cells
    go_wp2_with fail
    go_ret2
    exact ⟨ret_int2 HN.out.1.symm HN.out.2.symm, U1.out⟩
  cases q2 : gearB fs.length rs.length f r
  · skip
    have HN : Hid (spV fs rs n f r k = 0 ∧ spE fs rs n f r k = 2) := by constructor <;> simp [spV, spE, cd3, q, q2]
    go_enter Try.func11, Try.ntmps11
    go_wp2_with fail
    refine (iIsTrain_c a1 a2 _ _ fs rs _ _ (H.out _ U0.out).1 (H.out _ U0.out).2 hl1 hl2).mono ?_
    rintro e w1 ⟨rfl, u1⟩
    replace B0 := Lib.hid (B0.out.kept u1 (by simp))
    have U1 := Lib.hid (U0.out.then0 u1)
    clear u1 U0 hb0 hb1 hb2
    obtain ⟨hb0, hb1, hb2⟩ := B0.out.cells
    go_wp2_with fail
    refine (isGear_c a1 a2 _ _ fs rs _ _ (H.out _ U1.out).1 (H.out _ U1.out).2 hl1 hl2 _ _).mono ?_
    rintro e w2 ⟨rfl, u1⟩
    replace B0 := Lib.hid (B0.out.kept u1 (by simp))
    have U2 := Lib.hid (U1.out.then0 u1)
    clear u1 U1 hb0 hb1 hb2
    obtain ⟨hb0, hb1, hb2⟩ := B0.out.cells
    go_wp2_with fail
    go_ret2
    exact ⟨ret_int2 HN.out.1.symm HN.out.2.symm, U2.out⟩
  cases q3 : inB k 0 200
  · skip
    have HN : Hid (spV fs rs n f r k = 0 ∧ spE fs rs n f r k = 2) := by constructor <;> simp [spV, spE, cd3, q, q2, q3]
    go_enter Try.func11, Try.ntmps11
    go_wp2_with fail
    refine (iIsTrain_c a1 a2 _ _ fs rs _ _ (H.out _ U0.out).1 (H.out _ U0.out).2 hl1 hl2).mono ?_
    rintro e w1 ⟨rfl, u1⟩
    replace B0 := Lib.hid (B0.out.kept u1 (by simp))
    have U1 := Lib.hid (U0.out.then0 u1)
    clear u1 U0 hb0 hb1 hb2
    obtain ⟨hb0, hb1, hb2⟩ := B0.out.cells
    go_wp2_with fail
    refine (isGear_c a1 a2 _ _ fs rs _ _ (H.out _ U1.out).1 (H.out _ U1.out).2 hl1 hl2 _ _).mono ?_
    rintro e w2 ⟨rfl, u1⟩
    replace B0 := Lib.hid (B0.out.kept u1 (by simp))
    have U2 := Lib.hid (U1.out.then0 u1)
    clear u1 U1 hb0 hb1 hb2
    obtain ⟨hb0, hb1, hb2⟩ := B0.out.cells
    go_wp2_with (go_at_call 36; refine (within_c _ _ _ _).mono ?_; rintro e w' ⟨rfl, rfl⟩)
    go_ret2
    exact ⟨ret_int2 HN.out.1.symm HN.out.2.symm, U2.out⟩
  obtain ⟨i, j, rfl, rfl, hi, hj⟩ := gearB_t q2
  obtain ⟨t1, t2, t3⟩ := trB_t q
  have hk := inB_t q3
  have HN : Hid (spV fs rs n i j k = spF fs rs n i j k ∧ spE fs rs n i j k = 0) := by constructor <;> simp [spV, spE, cd3, q, q2, q3]
  go_enter Try.func11, Try.ntmps11
  go_wp2_with fail
  refine (iIsTrain_c a1 a2 _ _ fs rs _ _ (H.out _ U0.out).1 (H.out _ U0.out).2 hl1 hl2).mono ?_
  rintro e w1 ⟨rfl, u1⟩
  replace B0 := Lib.hid (B0.out.kept u1 (by simp))
  have U1 := Lib.hid (U0.out.then0 u1)
  clear u1 U0 hb0 hb1 hb2
  obtain ⟨hb0, hb1, hb2⟩ := B0.out.cells
  go_wp2_with fail
  refine (isGear_c a1 a2 _ _ fs rs _ _ (H.out _ U1.out).1 (H.out _ U1.out).2 hl1 hl2 _ _).mono ?_
  rintro e w2 ⟨rfl, u1⟩
  replace B0 := Lib.hid (B0.out.kept u1 (by simp))
  have U2 := Lib.hid (U1.out.then0 u1)
  clear u1 U1 hb0 hb1 hb2
  obtain ⟨hb0, hb1, hb2⟩ := B0.out.cells
  go_wp2_with (go_at_call 36; refine (within_c _ _ _ _).mono ?_; rintro e w' ⟨rfl, rfl⟩)
  refine (speed_c a1 a2 _ _ fs rs _ _ (H.out _ U2.out).1 (H.out _ U2.out).2 hl1 hl2 i j k hi hj t3 t1.2 t2.2 (by omega)).mono ?_
  rintro e w3 ⟨rfl, u1⟩
  have U3 := Lib.hid (U2.out.then0 u1)
  clear u1 U2 hb0 hb1 hb2
  go_wp2_with fail
  go_ret2
  exact ⟨ret_int2 HN.out.1.symm HN.out.2.symm, U3.out⟩
set_option maxHeartbeats 1600000 in
theorem sSpeedAt_c (a1 a2 : Option Addr) (c1 c2 : Nat) (fs rs : List Int) (n : Int) (w : World) (h1 : IntsAt w a1 fs) (h2 : IntsAt w a2 rs) (hl1 : fs.length ≤ 1048576) (hl2 : rs.length ≤ 1048576) (f r k : Int) :
    Calls Try.prog 12 #[.agg #[.slice a1 fs.length c1, .slice a2 rs.length c2, .int .i64 n], .int .i64 f, .int .i64 r, .int .i64 k] w fun e w' => e = .returned (.tuple #[.int .i64 (spV fs rs n f r k), .int .i64 (spE fs rs n f r k)]) ∧ Upd [] w w' := by
  have H : Hid (∀ w', Upd [] w w' → IntsAt w' a1 fs ∧ IntsAt w' a2 rs) := fun w' u => ⟨h1.kept0 u, h2.kept0 u⟩
  clear h1 h2
  have B0 := Lib.hid (Box.new w (.slice a1 fs.length c1) (.slice a2 rs.length c2) (.int .i64 n) 26)
  have U0 := Lib.hid ((Upd.refl w).alloc (.cells #[.slice a1 fs.length c1, .slice a2 rs.length c2, .int .i64 n] 26))
  obtain ⟨hb0, hb1, hb2⟩ := B0.out.cells
  cases q : trB fs rs n
  · skip
    have HN : Hid (spV fs rs n f r k = 0 ∧ spE fs rs n f r k = 1) := by constructor <;> simp [spV, spE, cd3, q]
    have HC : Hid (codeF fs rs n f r = 1) := by show _ = _; simp [codeF, q]
    go_enter Try.func12, Try.ntmps12
    go_wp2_with fail
    refine (l09Code_c a1 a2 _ _ fs rs _ _ (H.out _ U0.out).1 (H.out _ U0.out).2 hl1 hl2 _ _).mono ?_
    rintro e w1 ⟨rfl, u1⟩
    replace B0 := Lib.hid (B0.out.kept u1 (by simp))
    have U1 := Lib.hid (U0.out.then0 u1)
    clear u1 U0 hb0 hb1 hb2
    obtain ⟨hb0, hb1, hb2⟩ := B0.out.cells
    rw [HC.out]
    go_wp2_with fail
    go_ret2
    exact ⟨ret_int2 HN.out.1.symm HN.out.2.symm, U1.out⟩
  cases q2 : gearB fs.length rs.length f r
  · skip
    have HN : Hid (spV fs rs n f r k = 0 ∧ spE fs rs n f r k = 2) := by constructor <;> simp [spV, spE, cd3, q, q2]
    have HC : Hid (codeF fs rs n f r = 2) := by show _ = _; simp [codeF, q, q2]
    go_enter Try.func12, Try.ntmps12
    go_wp2_with fail
    refine (l09Code_c a1 a2 _ _ fs rs _ _ (H.out _ U0.out).1 (H.out _ U0.out).2 hl1 hl2 _ _).mono ?_
    rintro e w1 ⟨rfl, u1⟩
    replace B0 := Lib.hid (B0.out.kept u1 (by simp))
    have U1 := Lib.hid (U0.out.then0 u1)
    clear u1 U0 hb0 hb1 hb2
    obtain ⟨hb0, hb1, hb2⟩ := B0.out.cells
    rw [HC.out]
    go_wp2_with fail
    go_ret2
    exact ⟨ret_int2 HN.out.1.symm HN.out.2.symm, U1.out⟩
  cases q3 : inB k 0 200
  · skip
    have HN : Hid (spV fs rs n f r k = 0 ∧ spE fs rs n f r k = 2) := by constructor <;> simp [spV, spE, cd3, q, q2, q3]
    have HC : Hid (codeF fs rs n f r = 0) := by show _ = _; simp [codeF, q, q2]
    go_enter Try.func12, Try.ntmps12
    go_wp2_with fail
    refine (l09Code_c a1 a2 _ _ fs rs _ _ (H.out _ U0.out).1 (H.out _ U0.out).2 hl1 hl2 _ _).mono ?_
    rintro e w1 ⟨rfl, u1⟩
    replace B0 := Lib.hid (B0.out.kept u1 (by simp))
    have U1 := Lib.hid (U0.out.then0 u1)
    clear u1 U0 hb0 hb1 hb2
    obtain ⟨hb0, hb1, hb2⟩ := B0.out.cells
    rw [HC.out]
    go_wp2_with (go_at_call 39; refine (l01In_c _ _ _ _).mono ?_; rintro e w' ⟨rfl, rfl⟩)
    go_ret2
    exact ⟨ret_int2 HN.out.1.symm HN.out.2.symm, U1.out⟩
  obtain ⟨i, j, rfl, rfl, hi, hj⟩ := gearB_t q2
  obtain ⟨t1, t2, t3⟩ := trB_t q
  have hk := inB_t q3
  have HN : Hid (spV fs rs n i j k = spF fs rs n i j k ∧ spE fs rs n i j k = 0) := by constructor <;> simp [spV, spE, cd3, q, q2, q3]
  have HC : Hid (codeF fs rs n i j = 0) := by show _ = _; simp [codeF, q, q2]
  go_enter Try.func12, Try.ntmps12
  go_wp2_with fail
  refine (l09Code_c a1 a2 _ _ fs rs _ _ (H.out _ U0.out).1 (H.out _ U0.out).2 hl1 hl2 _ _).mono ?_
  rintro e w1 ⟨rfl, u1⟩
  replace B0 := Lib.hid (B0.out.kept u1 (by simp))
  have U1 := Lib.hid (U0.out.then0 u1)
  clear u1 U0 hb0 hb1 hb2
  obtain ⟨hb0, hb1, hb2⟩ := B0.out.cells
  rw [HC.out]
  go_wp2_with (go_at_call 39; refine (l01In_c _ _ _ _).mono ?_; rintro e w' ⟨rfl, rfl⟩)
  refine (l09Speed_c a1 a2 _ _ fs rs _ _ (H.out _ U1.out).1 (H.out _ U1.out).2 hl1 hl2 i j k hi hj t3 t1.2 t2.2 (by omega)).mono ?_
  rintro e w3 ⟨rfl, u1⟩
  have U3 := Lib.hid (U1.out.then0 u1)
  clear u1 U1 hb0 hb1 hb2
  go_wp2_with fail
  go_ret2
  exact ⟨ret_int2 HN.out.1.symm HN.out.2.symm, U3.out⟩
set_option maxHeartbeats 1600000 in
theorem iCadenceFor_c (a1 a2 : Option Addr) (c1 c2 : Nat) (fs rs : List Int) (n : Int) (w : World) (h1 : IntsAt w a1 fs) (h2 : IntsAt w a2 rs) (hl1 : fs.length ≤ 1048576) (hl2 : rs.length ≤ 1048576) (f r k : Int) :
    Calls Try.prog 8 #[.agg #[.slice a1 fs.length c1, .slice a2 rs.length c2, .int .i64 n], .int .i64 f, .int .i64 r, .int .i64 k] w fun e w' => e = .returned (.tuple #[.int .i64 (cadV fs rs n f r k), .int .i64 (cadE fs rs n f r k)]) ∧ Upd [] w w' := by
  have H : Hid (∀ w', Upd [] w w' → IntsAt w' a1 fs ∧ IntsAt w' a2 rs) := fun w' u => ⟨h1.kept0 u, h2.kept0 u⟩
  clear h1 h2
  have B0 := Lib.hid (Box.new w (.slice a1 fs.length c1) (.slice a2 rs.length c2) (.int .i64 n) 26)
  have U0 := Lib.hid ((Upd.refl w).alloc (.cells #[.slice a1 fs.length c1, .slice a2 rs.length c2, .int .i64 n] 26))
  obtain ⟨hb0, hb1, hb2⟩ := B0.out.cells
  cases q : trB fs rs n
  · skip
    have HN : Hid (cadV fs rs n f r k = 0 ∧ cadE fs rs n f r k = 1) := by constructor <;> simp [cadV, cadE, cd3, q]
    go_enter Try.func8, Try.ntmps8
    go_wp2_with fail
    refine (iIsTrain_c a1 a2 _ _ fs rs _ _ (H.out _ U0.out).1 (H.out _ U0.out).2 hl1 hl2).mono ?_
    rintro e w1 ⟨rfl, u1⟩
    replace B0 := Lib.hid (B0.out.kept u1 (by simp))
    have U1 := Lib.hid (U0.out.then0 u1)
    clear u1 U0 hb0 hb1 hb2
    obtain ⟨hb0, hb1, hb2⟩ := B0.out.cells
    go_wp2_with fail
    go_ret2
    exact ⟨ret_int2 HN.out.1.symm HN.out.2.symm, U1.out⟩
  cases q2 : gearB fs.length rs.length f r
  · skip
    have HN : Hid (cadV fs rs n f r k = 0 ∧ cadE fs rs n f r k = 2) := by constructor <;> simp [cadV, cadE, cd3, q, q2]
    go_enter Try.func8, Try.ntmps8
    go_wp2_with fail
    refine (iIsTrain_c a1 a2 _ _ fs rs _ _ (H.out _ U0.out).1 (H.out _ U0.out).2 hl1 hl2).mono ?_
    rintro e w1 ⟨rfl, u1⟩
    replace B0 := Lib.hid (B0.out.kept u1 (by simp))
    have U1 := Lib.hid (U0.out.then0 u1)
    clear u1 U0 hb0 hb1 hb2
    obtain ⟨hb0, hb1, hb2⟩ := B0.out.cells
    go_wp2_with fail
    refine (isGear_c a1 a2 _ _ fs rs _ _ (H.out _ U1.out).1 (H.out _ U1.out).2 hl1 hl2 _ _).mono ?_
    rintro e w2 ⟨rfl, u1⟩
    replace B0 := Lib.hid (B0.out.kept u1 (by simp))
    have U2 := Lib.hid (U1.out.then0 u1)
    clear u1 U1 hb0 hb1 hb2
    obtain ⟨hb0, hb1, hb2⟩ := B0.out.cells
    go_wp2_with fail
    go_ret2
    exact ⟨ret_int2 HN.out.1.symm HN.out.2.symm, U2.out⟩
  cases q3 : inB k 0 200000
  · skip
    have HN : Hid (cadV fs rs n f r k = 0 ∧ cadE fs rs n f r k = 2) := by constructor <;> simp [cadV, cadE, cd3, q, q2, q3]
    go_enter Try.func8, Try.ntmps8
    go_wp2_with fail
    refine (iIsTrain_c a1 a2 _ _ fs rs _ _ (H.out _ U0.out).1 (H.out _ U0.out).2 hl1 hl2).mono ?_
    rintro e w1 ⟨rfl, u1⟩
    replace B0 := Lib.hid (B0.out.kept u1 (by simp))
    have U1 := Lib.hid (U0.out.then0 u1)
    clear u1 U0 hb0 hb1 hb2
    obtain ⟨hb0, hb1, hb2⟩ := B0.out.cells
    go_wp2_with fail
    refine (isGear_c a1 a2 _ _ fs rs _ _ (H.out _ U1.out).1 (H.out _ U1.out).2 hl1 hl2 _ _).mono ?_
    rintro e w2 ⟨rfl, u1⟩
    replace B0 := Lib.hid (B0.out.kept u1 (by simp))
    have U2 := Lib.hid (U1.out.then0 u1)
    clear u1 U1 hb0 hb1 hb2
    obtain ⟨hb0, hb1, hb2⟩ := B0.out.cells
    go_wp2_with (go_at_call 36; refine (within_c _ _ _ _).mono ?_; rintro e w' ⟨rfl, rfl⟩)
    go_ret2
    exact ⟨ret_int2 HN.out.1.symm HN.out.2.symm, U2.out⟩
  obtain ⟨i, j, rfl, rfl, hi, hj⟩ := gearB_t q2
  obtain ⟨t1, t2, t3⟩ := trB_t q
  have hk := inB_t q3
  have HN : Hid (∀ o, firstC (cadP fs rs n i j k) 201 0 = o → cadV fs rs n i j k = ((o.getD 0 : Nat) : Int) ∧ cadE fs rs n i j k = (if o.isSome then 0 else 4)) := by rintro o rfl; constructor <;> simp [cadV, cadE, cd3, q, q2, q3]
  go_enter Try.func8, Try.ntmps8
  go_wp2_with fail
  refine (iIsTrain_c a1 a2 _ _ fs rs _ _ (H.out _ U0.out).1 (H.out _ U0.out).2 hl1 hl2).mono ?_
  rintro e w1 ⟨rfl, u1⟩
  replace B0 := Lib.hid (B0.out.kept u1 (by simp))
  have U1 := Lib.hid (U0.out.then0 u1)
  clear u1 U0 hb0 hb1 hb2
  obtain ⟨hb0, hb1, hb2⟩ := B0.out.cells
  go_wp2_with fail
  refine (isGear_c a1 a2 _ _ fs rs _ _ (H.out _ U1.out).1 (H.out _ U1.out).2 hl1 hl2 _ _).mono ?_
  rintro e w2 ⟨rfl, u1⟩
  replace B0 := Lib.hid (B0.out.kept u1 (by simp))
  have U2 := Lib.hid (U1.out.then0 u1)
  clear u1 U1 hb0 hb1 hb2
  obtain ⟨hb0, hb1, hb2⟩ := B0.out.cells
  go_wp2_with (go_at_call 36; refine (within_c _ _ _ _).mono ?_; rintro e w' ⟨rfl, rfl⟩)
  clear hb0 hb1 hb2
  go_loopw [10] (fun v wr => ∃ m : Nat, m ≤ 201 ∧ v = .int .i64 m ∧ Hid (firstC (cadP fs rs n i j k) 201 0 = firstC (cadP fs rs n i j k) (201 - m) m) ∧ Hid (Box wr w.heap.size (.slice a1 fs.length c1) (.slice a2 rs.length c2) (.int .i64 n) 26) ∧ Hid (Upd [] w wr)) (fun v _ => 201 - (intOf v).toNat)
  case atStart => exact ⟨0, by omega, rfl, rfl, B0, U2⟩
  case round =>
    clear B0 U2
    obtain ⟨m, hm, rfl, HF, B0, U4⟩ := hrel
    by_cases hlt : m < 201
    · obtain ⟨hb0, hb1, hb2⟩ := B0.out.cells
      by_cases hp : k ≤ spF fs rs n i j m
      · have HO : Hid (firstC (cadP fs rs n i j k) 201 0 = some m) := HF.out.trans (firstC_t (by omega) (decide_eq_true hp))
        have HV := Lib.hid (HN.out _ HO.out)
        go_wp2_with fail
        refine (speed_c a1 a2 _ _ fs rs _ _ (H.out _ U4.out).1 (H.out _ U4.out).2 hl1 hl2 i j m hi hj t3 t1.2 t2.2 (by omega)).mono ?_
        rintro e w3 ⟨rfl, u1⟩
        have U5 := Lib.hid (U4.out.then0 u1)
        clear u1 U4 hb0 hb1 hb2
        go_wp2_with fail
        go_ret2
        exact ⟨ret_int2 HV.out.1.symm HV.out.2.symm, U5.out⟩
      · have HO := Lib.hid (HF.out.trans (firstC_f (by omega) (decide_eq_false hp)))
        go_wp2_with fail
        refine (speed_c a1 a2 _ _ fs rs _ _ (H.out _ U4.out).1 (H.out _ U4.out).2 hl1 hl2 i j m hi hj t3 t1.2 t2.2 (by omega)).mono ?_
        rintro e w3 ⟨rfl, u1⟩
        have U5 := Lib.hid (U4.out.then0 u1)
        have B1 := Lib.hid (B0.out.kept u1 (by simp))
        clear u1 U4 B0 hb0 hb1 hb2
        go_wp2_with fail
        go_roundw
        case rel => exact ⟨m + 1, by omega, by go_num, by rw [show 201 - (m + 1) = 201 - m - 1 by omega]; exact HO, B1, U5⟩
        case measure => simp [intOf]; omega
    · obtain rfl : m = 201 := by omega
      have HV := Lib.hid (HN.out none HF.out)
      go_wp2_with fail
      go_ret2
      exact ⟨ret_int2 HV.out.1.symm HV.out.2.symm, U4.out⟩
set_option maxHeartbeats 1600000 in
theorem sCadenceFor_c (a1 a2 : Option Addr) (c1 c2 : Nat) (fs rs : List Int) (n : Int) (w : World) (h1 : IntsAt w a1 fs) (h2 : IntsAt w a2 rs) (hl1 : fs.length ≤ 1048576) (hl2 : rs.length ≤ 1048576) (f r k : Int) :
    Calls Try.prog 9 #[.agg #[.slice a1 fs.length c1, .slice a2 rs.length c2, .int .i64 n], .int .i64 f, .int .i64 r, .int .i64 k] w fun e w' => e = .returned (.tuple #[.int .i64 (cadV fs rs n f r k), .int .i64 (cadE fs rs n f r k)]) ∧ Upd [] w w' := by
  have H : Hid (∀ w', Upd [] w w' → IntsAt w' a1 fs ∧ IntsAt w' a2 rs) := fun w' u => ⟨h1.kept0 u, h2.kept0 u⟩
  clear h1 h2
  have B0 := Lib.hid (Box.new w (.slice a1 fs.length c1) (.slice a2 rs.length c2) (.int .i64 n) 26)
  have U0 := Lib.hid ((Upd.refl w).alloc (.cells #[.slice a1 fs.length c1, .slice a2 rs.length c2, .int .i64 n] 26))
  obtain ⟨hb0, hb1, hb2⟩ := B0.out.cells
  cases q : trB fs rs n
  · skip
    have HN : Hid (cadV fs rs n f r k = 0 ∧ cadE fs rs n f r k = 1) := by constructor <;> simp [cadV, cadE, cd3, q]
    have HC : Hid (codeF fs rs n f r = 1) := by show _ = _; simp [codeF, q]
    go_enter Try.func9, Try.ntmps9
    go_wp2_with fail
    refine (l09Code_c a1 a2 _ _ fs rs _ _ (H.out _ U0.out).1 (H.out _ U0.out).2 hl1 hl2 _ _).mono ?_
    rintro e w1 ⟨rfl, u1⟩
    replace B0 := Lib.hid (B0.out.kept u1 (by simp))
    have U1 := Lib.hid (U0.out.then0 u1)
    clear u1 U0 hb0 hb1 hb2
    obtain ⟨hb0, hb1, hb2⟩ := B0.out.cells
    rw [HC.out]
    go_wp2_with fail
    go_ret2
    exact ⟨ret_int2 HN.out.1.symm HN.out.2.symm, U1.out⟩
  cases q2 : gearB fs.length rs.length f r
  · skip
    have HN : Hid (cadV fs rs n f r k = 0 ∧ cadE fs rs n f r k = 2) := by constructor <;> simp [cadV, cadE, cd3, q, q2]
    have HC : Hid (codeF fs rs n f r = 2) := by show _ = _; simp [codeF, q, q2]
    go_enter Try.func9, Try.ntmps9
    go_wp2_with fail
    refine (l09Code_c a1 a2 _ _ fs rs _ _ (H.out _ U0.out).1 (H.out _ U0.out).2 hl1 hl2 _ _).mono ?_
    rintro e w1 ⟨rfl, u1⟩
    replace B0 := Lib.hid (B0.out.kept u1 (by simp))
    have U1 := Lib.hid (U0.out.then0 u1)
    clear u1 U0 hb0 hb1 hb2
    obtain ⟨hb0, hb1, hb2⟩ := B0.out.cells
    rw [HC.out]
    go_wp2_with fail
    go_ret2
    exact ⟨ret_int2 HN.out.1.symm HN.out.2.symm, U1.out⟩
  cases q3 : inB k 0 200000
  · skip
    have HN : Hid (cadV fs rs n f r k = 0 ∧ cadE fs rs n f r k = 2) := by constructor <;> simp [cadV, cadE, cd3, q, q2, q3]
    have HC : Hid (codeF fs rs n f r = 0) := by show _ = _; simp [codeF, q, q2]
    go_enter Try.func9, Try.ntmps9
    go_wp2_with fail
    refine (l09Code_c a1 a2 _ _ fs rs _ _ (H.out _ U0.out).1 (H.out _ U0.out).2 hl1 hl2 _ _).mono ?_
    rintro e w1 ⟨rfl, u1⟩
    replace B0 := Lib.hid (B0.out.kept u1 (by simp))
    have U1 := Lib.hid (U0.out.then0 u1)
    clear u1 U0 hb0 hb1 hb2
    obtain ⟨hb0, hb1, hb2⟩ := B0.out.cells
    rw [HC.out]
    go_wp2_with (go_at_call 39; refine (l01In_c _ _ _ _).mono ?_; rintro e w' ⟨rfl, rfl⟩)
    go_ret2
    exact ⟨ret_int2 HN.out.1.symm HN.out.2.symm, U1.out⟩
  obtain ⟨i, j, rfl, rfl, hi, hj⟩ := gearB_t q2
  obtain ⟨t1, t2, t3⟩ := trB_t q
  have hk := inB_t q3
  have HN : Hid (∀ o, firstC (cadP fs rs n i j k) 201 0 = o → cadV fs rs n i j k = ((o.getD 0 : Nat) : Int) ∧ cadE fs rs n i j k = (if o.isSome then 0 else 4)) := by rintro o rfl; constructor <;> simp [cadV, cadE, cd3, q, q2, q3]
  have HC : Hid (codeF fs rs n i j = 0) := by show _ = _; simp [codeF, q, q2]
  go_enter Try.func9, Try.ntmps9
  go_wp2_with fail
  refine (l09Code_c a1 a2 _ _ fs rs _ _ (H.out _ U0.out).1 (H.out _ U0.out).2 hl1 hl2 _ _).mono ?_
  rintro e w1 ⟨rfl, u1⟩
  replace B0 := Lib.hid (B0.out.kept u1 (by simp))
  have U1 := Lib.hid (U0.out.then0 u1)
  clear u1 U0 hb0 hb1 hb2
  obtain ⟨hb0, hb1, hb2⟩ := B0.out.cells
  rw [HC.out]
  go_wp2_with (go_at_call 39; refine (l01In_c _ _ _ _).mono ?_; rintro e w' ⟨rfl, rfl⟩)
  clear hb0 hb1 hb2
  go_loopw [11] (fun v wr => ∃ m : Nat, m ≤ 201 ∧ v = .int .i64 m ∧ Hid (firstC (cadP fs rs n i j k) 201 0 = firstC (cadP fs rs n i j k) (201 - m) m) ∧ Hid (Box wr w.heap.size (.slice a1 fs.length c1) (.slice a2 rs.length c2) (.int .i64 n) 26) ∧ Hid (Upd [] w wr)) (fun v _ => 201 - (intOf v).toNat)
  case atStart => exact ⟨0, by omega, rfl, rfl, B0, U1⟩
  case round =>
    clear B0 U1
    obtain ⟨m, hm, rfl, HF, B0, U4⟩ := hrel
    by_cases hlt : m < 201
    · obtain ⟨hb0, hb1, hb2⟩ := B0.out.cells
      by_cases hp : k ≤ spF fs rs n i j m
      · have HO : Hid (firstC (cadP fs rs n i j k) 201 0 = some m) := HF.out.trans (firstC_t (by omega) (decide_eq_true hp))
        have HV := Lib.hid (HN.out _ HO.out)
        go_wp2_with fail
        refine (l09Speed_c a1 a2 _ _ fs rs _ _ (H.out _ U4.out).1 (H.out _ U4.out).2 hl1 hl2 i j m hi hj t3 t1.2 t2.2 (by omega)).mono ?_
        rintro e w3 ⟨rfl, u1⟩
        have U5 := Lib.hid (U4.out.then0 u1)
        clear u1 U4 hb0 hb1 hb2
        go_wp2_with fail
        go_ret2
        exact ⟨ret_int2 HV.out.1.symm HV.out.2.symm, U5.out⟩
      · have HO := Lib.hid (HF.out.trans (firstC_f (by omega) (decide_eq_false hp)))
        go_wp2_with fail
        refine (l09Speed_c a1 a2 _ _ fs rs _ _ (H.out _ U4.out).1 (H.out _ U4.out).2 hl1 hl2 i j m hi hj t3 t1.2 t2.2 (by omega)).mono ?_
        rintro e w3 ⟨rfl, u1⟩
        have U5 := Lib.hid (U4.out.then0 u1)
        have B1 := Lib.hid (B0.out.kept u1 (by simp))
        clear u1 U4 B0 hb0 hb1 hb2
        go_wp2_with fail
        go_roundw
        case rel => exact ⟨m + 1, by omega, by go_num, by rw [show 201 - (m + 1) = 201 - m - 1 by omega]; exact HO, B1, U5⟩
        case measure => simp [intOf]; omega
    · obtain rfl : m = 201 := by omega
      have HV := Lib.hid (HN.out none HF.out)
      go_wp2_with fail
      go_ret2
      exact ⟨ret_int2 HV.out.1.symm HV.out.2.symm, U4.out⟩
set_option maxHeartbeats 1600000 in
theorem iRangeOf_c (a1 a2 : Option Addr) (c1 c2 : Nat) (fs rs : List Int) (n : Int) (w : World) (h1 : IntsAt w a1 fs) (h2 : IntsAt w a2 rs) (hl1 : fs.length ≤ 1048576) (hl2 : rs.length ≤ 1048576) :
    Calls Try.prog 28 #[.agg #[.slice a1 fs.length c1, .slice a2 rs.length c2, .int .i64 n]] w fun e w' => e = .returned (.tuple #[.int .i64 (rgV fs rs n), .int .i64 (rgE fs rs n)]) ∧ Upd [] w w' := by
  have H : Hid (∀ w', Upd [] w w' → IntsAt w' a1 fs ∧ IntsAt w' a2 rs) := fun w' u => ⟨h1.kept0 u, h2.kept0 u⟩
  clear h1 h2
  have B0 := Lib.hid (Box.new w (.slice a1 fs.length c1) (.slice a2 rs.length c2) (.int .i64 n) 26)
  have U0 := Lib.hid ((Upd.refl w).alloc (.cells #[.slice a1 fs.length c1, .slice a2 rs.length c2, .int .i64 n] 26))
  obtain ⟨hb0, hb1, hb2⟩ := B0.out.cells
  cases q : trB fs rs n
  · have HN : Hid (rgV fs rs n = 0 ∧ rgE fs rs n = 1) := by constructor <;> simp [rgV, rgE, q]
    go_enter Try.func28, Try.ntmps28
    go_wp2_with fail
    refine (iIsTrain_c a1 a2 _ _ fs rs _ _ (H.out _ U0.out).1 (H.out _ U0.out).2 hl1 hl2).mono ?_
    rintro e w1 ⟨rfl, u1⟩
    replace B0 := Lib.hid (B0.out.kept u1 (by simp))
    have U1 := Lib.hid (U0.out.then0 u1)
    clear u1 U0 hb0 hb1 hb2
    obtain ⟨hb0, hb1, hb2⟩ := B0.out.cells
    go_wp2_with fail
    go_ret2
    exact ⟨ret_int2 HN.out.1.symm HN.out.2.symm, U1.out⟩
  obtain ⟨⟨t1, t2⟩, ⟨t3, t4⟩, t5⟩ := trB_t q
  have HN : Hid (rgV fs rs n = (100 * tooth fs (fs.length - 1) * tooth rs (rs.length - 1)).tdiv (tooth rs 0 * tooth fs 0) ∧ rgE fs rs n = 0) := by constructor <;> simp [rgV, rgE, q, Int.mul_comm (tooth rs 0) (tooth fs 0)]
  have g1 := t2.at (i := fs.length - 1) (by omega)
  have g2 := t4.at (i := rs.length - 1) (by omega)
  have g3 := t2.at (i := 0) (by omega)
  have g4 := t4.at (i := 0) (by omega)
  go_enter Try.func28, Try.ntmps28
  go_wp2_with fail
  refine (iIsTrain_c a1 a2 _ _ fs rs _ _ (H.out _ U0.out).1 (H.out _ U0.out).2 hl1 hl2).mono ?_
  rintro e w1 ⟨rfl, u1⟩
  replace B0 := Lib.hid (B0.out.kept u1 (by simp))
  have U1 := Lib.hid (U0.out.then0 u1)
  clear u1 U0 hb0 hb1 hb2
  obtain ⟨hb0, hb1, hb2⟩ := B0.out.cells
  go_wp2_with fail
  have j1 : ((fs.length : Int) - 1).toNat = fs.length - 1 := by omega
  have j2 : ((rs.length : Int) - 1).toNat = rs.length - 1 := by omega
  have m1 := mul_box (a := 100 * tooth fs (fs.length - 1)) (b := tooth rs (rs.length - 1)) (A := 6000) (B := 60) (by omega) (by omega)
  have m2 := mul_box (a := tooth rs 0) (b := tooth fs 0) (A := 60) (B := 60) (by omega) (by omega)
  have m3 : 1 ≤ tooth rs 0 * tooth fs 0 := by have := Int.mul_pos (a := tooth rs 0) (b := tooth fs 0) (by omega) (by omega); omega
  have m4 := tdiv_bd (100 * tooth fs (fs.length - 1) * tooth rs (rs.length - 1)) (tooth rs 0 * tooth fs 0) 360000 (by omega) (by omega)
  have hw1 : IntKind.i64.wrap (100 * tooth fs (fs.length - 1)) = 100 * tooth fs (fs.length - 1) := IntWalk.i64_in _ (by omega)
  have hw2 : IntKind.i64.wrap (100 * tooth fs (fs.length - 1) * tooth rs (rs.length - 1)) = 100 * tooth fs (fs.length - 1) * tooth rs (rs.length - 1) := IntWalk.i64_in _ (by omega)
  have hw3 : IntKind.i64.wrap (tooth rs 0 * tooth fs 0) = tooth rs 0 * tooth fs 0 := IntWalk.i64_in _ (by omega)
  have hw4 : IntKind.i64.wrap ((100 * tooth fs (fs.length - 1) * tooth rs (rs.length - 1)).tdiv (tooth rs 0 * tooth fs 0)) = (100 * tooth fs (fs.length - 1) * tooth rs (rs.length - 1)).tdiv (tooth rs 0 * tooth fs 0) := IntWalk.i64_in _ (by omega)
  have hw5 : IntKind.i64.wrap ((fs.length : Int) - 1) = (fs.length : Int) - 1 := IntWalk.i64_in _ (by omega)
  have hw6 : IntKind.i64.wrap ((rs.length : Int) - 1) = (rs.length : Int) - 1 := IntWalk.i64_in _ (by omega)
  have hne : ¬ (tooth rs 0 * tooth fs 0 = 0) := by omega
  have i1 : (0 : Int) ≤ (fs.length : Int) - 1 := by omega
  have i2 : (fs.length : Int) - 1 < (fs.length : Int) := by omega
  have i3 : (0 : Int) ≤ (rs.length : Int) - 1 := by omega
  have i4 : (rs.length : Int) - 1 < (rs.length : Int) := by omega
  have i5 : (0 : Int) < (fs.length : Int) := by omega
  have i6 : (0 : Int) < (rs.length : Int) := by omega
  go_quiet (fail)
  clear hb0 hb1 hb2
  replace B0 := Lib.hid (B0.out.kept ((Upd.refl w1).drewN nq) (by simp))
  have U2 := Lib.hid ((U1.out).drewN nq)
  clear U1
  generalize w1.drewN nq = w2 at B0 U2 ⊢
  obtain ⟨hb0, hb1, hb2⟩ := B0.out.cells
  obtain ⟨b1, o1, e1, hc1⟩ := tooth_at (H.out _ U2.out).1 (k := fs.length - 1) (by omega)
  obtain ⟨b2, o2, e2, hd1⟩ := tooth_at (H.out _ U2.out).2 (k := rs.length - 1) (by omega)
  subst e1
  subst e2
  obtain ⟨b3, o3, e3, hc2⟩ := tooth_at (H.out _ U2.out).1 (k := 0) (by omega)
  cases e3
  obtain ⟨b4, o4, e4, hd2⟩ := tooth_at (H.out _ U2.out).2 (k := 0) (by omega)
  cases e4
  rw [Nat.add_zero] at hc2 hd2
  go_wp2_with fail
  go_quiet (fail)
  go_wp2_with fail
  go_ret2
  exact ⟨ret_int2 HN.out.1.symm HN.out.2.symm, (U2.out).drewN _⟩
set_option maxHeartbeats 1600000 in
theorem sRangeOf_c (a1 a2 : Option Addr) (c1 c2 : Nat) (fs rs : List Int) (n : Int) (w : World) (h1 : IntsAt w a1 fs) (h2 : IntsAt w a2 rs) (hl1 : fs.length ≤ 1048576) (hl2 : rs.length ≤ 1048576) :
    Calls Try.prog 29 #[.agg #[.slice a1 fs.length c1, .slice a2 rs.length c2, .int .i64 n]] w fun e w' => e = .returned (.tuple #[.int .i64 (rgV fs rs n), .int .i64 (rgE fs rs n)]) ∧ Upd [] w w' := by
  have H : Hid (∀ w', Upd [] w w' → IntsAt w' a1 fs ∧ IntsAt w' a2 rs) := fun w' u => ⟨h1.kept0 u, h2.kept0 u⟩
  clear h1 h2
  have B0 := Lib.hid (Box.new w (.slice a1 fs.length c1) (.slice a2 rs.length c2) (.int .i64 n) 26)
  have U0 := Lib.hid ((Upd.refl w).alloc (.cells #[.slice a1 fs.length c1, .slice a2 rs.length c2, .int .i64 n] 26))
  obtain ⟨hb0, hb1, hb2⟩ := B0.out.cells
  cases q : trB fs rs n
  · have HN : Hid (rgV fs rs n = 0 ∧ rgE fs rs n = 1) := by constructor <;> simp [rgV, rgE, q]
    go_enter Try.func29, Try.ntmps29
    go_wp2_with fail
    refine (sIsTrain_c a1 a2 _ _ fs rs _ _ (H.out _ U0.out).1 (H.out _ U0.out).2 hl1 hl2).mono ?_
    rintro e w1 ⟨rfl, u1⟩
    replace B0 := Lib.hid (B0.out.kept u1 (by simp))
    have U1 := Lib.hid (U0.out.then0 u1)
    clear u1 U0 hb0 hb1 hb2
    obtain ⟨hb0, hb1, hb2⟩ := B0.out.cells
    go_wp2_with fail
    go_ret2
    exact ⟨ret_int2 HN.out.1.symm HN.out.2.symm, U1.out⟩
  obtain ⟨⟨t1, t2⟩, ⟨t3, t4⟩, t5⟩ := trB_t q
  have HN : Hid (rgV fs rs n = (100 * tooth fs (fs.length - 1) * tooth rs (rs.length - 1)).tdiv (tooth fs 0 * tooth rs 0) ∧ rgE fs rs n = 0) := by constructor <;> simp [rgV, rgE, q]
  have g1 := t2.at (i := fs.length - 1) (by omega)
  have g2 := t4.at (i := rs.length - 1) (by omega)
  have g3 := t2.at (i := 0) (by omega)
  have g4 := t4.at (i := 0) (by omega)
  go_enter Try.func29, Try.ntmps29
  go_wp2_with fail
  refine (sIsTrain_c a1 a2 _ _ fs rs _ _ (H.out _ U0.out).1 (H.out _ U0.out).2 hl1 hl2).mono ?_
  rintro e w1 ⟨rfl, u1⟩
  replace B0 := Lib.hid (B0.out.kept u1 (by simp))
  have U1 := Lib.hid (U0.out.then0 u1)
  clear u1 U0 hb0 hb1 hb2
  obtain ⟨hb0, hb1, hb2⟩ := B0.out.cells
  go_wp2_with fail
  have j1 : ((fs.length : Int) - 1).toNat = fs.length - 1 := by omega
  have j2 : ((rs.length : Int) - 1).toNat = rs.length - 1 := by omega
  have m1 := mul_box (a := 100 * tooth fs (fs.length - 1)) (b := tooth rs (rs.length - 1)) (A := 6000) (B := 60) (by omega) (by omega)
  have m2 := mul_box (a := tooth fs 0) (b := tooth rs 0) (A := 60) (B := 60) (by omega) (by omega)
  have m3 : 1 ≤ tooth fs 0 * tooth rs 0 := by have := Int.mul_pos (a := tooth fs 0) (b := tooth rs 0) (by omega) (by omega); omega
  have m4 := tdiv_bd (100 * tooth fs (fs.length - 1) * tooth rs (rs.length - 1)) (tooth fs 0 * tooth rs 0) 360000 (by omega) (by omega)
  have hw1 : IntKind.i64.wrap (100 * tooth fs (fs.length - 1)) = 100 * tooth fs (fs.length - 1) := IntWalk.i64_in _ (by omega)
  have hw2 : IntKind.i64.wrap (100 * tooth fs (fs.length - 1) * tooth rs (rs.length - 1)) = 100 * tooth fs (fs.length - 1) * tooth rs (rs.length - 1) := IntWalk.i64_in _ (by omega)
  have hw3 : IntKind.i64.wrap (tooth fs 0 * tooth rs 0) = tooth fs 0 * tooth rs 0 := IntWalk.i64_in _ (by omega)
  have hw4 : IntKind.i64.wrap ((100 * tooth fs (fs.length - 1) * tooth rs (rs.length - 1)).tdiv (tooth fs 0 * tooth rs 0)) = (100 * tooth fs (fs.length - 1) * tooth rs (rs.length - 1)).tdiv (tooth fs 0 * tooth rs 0) := IntWalk.i64_in _ (by omega)
  have hw5 : IntKind.i64.wrap ((fs.length : Int) - 1) = (fs.length : Int) - 1 := IntWalk.i64_in _ (by omega)
  have hw6 : IntKind.i64.wrap ((rs.length : Int) - 1) = (rs.length : Int) - 1 := IntWalk.i64_in _ (by omega)
  have hne : ¬ (tooth fs 0 * tooth rs 0 = 0) := by omega
  have i1 : (0 : Int) ≤ (fs.length : Int) - 1 := by omega
  have i2 : (fs.length : Int) - 1 < (fs.length : Int) := by omega
  have i3 : (0 : Int) ≤ (rs.length : Int) - 1 := by omega
  have i4 : (rs.length : Int) - 1 < (rs.length : Int) := by omega
  have i5 : (0 : Int) < (fs.length : Int) := by omega
  have i6 : (0 : Int) < (rs.length : Int) := by omega
  go_quiet (fail)
  clear hb0 hb1 hb2
  replace B0 := Lib.hid (B0.out.kept ((Upd.refl w1).drewN nq) (by simp))
  have U2 := Lib.hid ((U1.out).drewN nq)
  clear U1
  generalize w1.drewN nq = w2 at B0 U2 ⊢
  obtain ⟨hb0, hb1, hb2⟩ := B0.out.cells
  obtain ⟨b1, o1, e1, hc1⟩ := tooth_at (H.out _ U2.out).1 (k := fs.length - 1) (by omega)
  obtain ⟨b2, o2, e2, hd1⟩ := tooth_at (H.out _ U2.out).2 (k := rs.length - 1) (by omega)
  subst e1
  subst e2
  obtain ⟨b3, o3, e3, hc2⟩ := tooth_at (H.out _ U2.out).1 (k := 0) (by omega)
  cases e3
  obtain ⟨b4, o4, e4, hd2⟩ := tooth_at (H.out _ U2.out).2 (k := 0) (by omega)
  cases e4
  rw [Nat.add_zero] at hc2 hd2
  go_wp2_with fail
  go_quiet (fail)
  go_wp2_with fail
  go_ret2
  exact ⟨ret_int2 HN.out.1.symm HN.out.2.symm, (U2.out).drewN _⟩
end Go.Proofs.Ytjnkckpebfafjaa
