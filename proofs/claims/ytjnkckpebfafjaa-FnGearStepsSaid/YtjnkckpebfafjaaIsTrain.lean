/- Chapter 9: is it a drive train. -/
import Derived.Test.YtjnkckpebfafjaaTrain2
import Derived.Test.YtjnkckpebfafjaaTeeth
namespace Go.Proofs.Ytjnkckpebfafjaa
open Go.RowKit
set_option linter.unusedVariables false
set_option linter.unusedSimpArgs false

/-- A drive train. -/
noncomputable def trB (fs rs : List Int) (n : Int) : Bool := teethB fs 3 20 60 && (teethB rs 12 9 52 && inB n 1000 2500)
set_option maxHeartbeats 800000 in
theorem iIsTrain_c (a1 a2 : Option Addr) (c1 c2 : Nat) (fs rs : List Int) (n : Int) (w : World) (h1 : IntsAt w a1 fs) (h2 : IntsAt w a2 rs) (hl1 : fs.length ≤ 1048576) (hl2 : rs.length ≤ 1048576) :
    Calls Try.prog 22 #[.agg #[.slice a1 fs.length c1, .slice a2 rs.length c2, .int .i64 n]] w fun e w' => e = .returned (.bool (trB fs rs n)) ∧ Upd [] w w' := by
  have H : Hid (∀ w', Upd [] w w' → IntsAt w' a1 fs ∧ IntsAt w' a2 rs) := fun w' u => ⟨h1.kept0 u, h2.kept0 u⟩
  clear h1 h2
  have B0 := Lib.hid (Box.new w (.slice a1 fs.length c1) (.slice a2 rs.length c2) (.int .i64 n) 26)
  have U0 := Lib.hid ((Upd.refl w).alloc (.cells #[.slice a1 fs.length c1, .slice a2 rs.length c2, .int .i64 n] 26))
  cases q1 : teethB fs 3 20 60
  · have HN : Hid (trB fs rs n = false) := by show _ = _; simp [trB, q1]
    go_enter Try.func22, Try.ntmps22
    go_wp2_with fail
    refine (areTeeth_c a1 _ fs 3 20 60 _ (H.out _ U0.out).1 hl1 (by omega)).mono ?_
    rintro e w1 ⟨rfl, u1⟩
    have U1 := Lib.hid (U0.out.then0 u1)
    clear u1 U0 B0
    rw [q1]
    go_wp2_with fail
    go_ret
    exact ⟨ret_bool HN.out.symm, U1.out⟩
  · cases q2 : teethB rs 12 9 52
    · have HN : Hid (trB fs rs n = false) := by show _ = _; simp [trB, q2]
      go_enter Try.func22, Try.ntmps22
      go_wp2_with fail
      refine (areTeeth_c a1 _ fs 3 20 60 _ (H.out _ U0.out).1 hl1 (by omega)).mono ?_
      rintro e w1 ⟨rfl, u1⟩
      replace B0 := Lib.hid (B0.out.kept u1 (by simp))
      have U1 := Lib.hid (U0.out.then0 u1)
      clear u1 U0
      obtain ⟨hb0, hb1, hb2⟩ := B0.out.cells
      rw [q1]
      go_wp2_with fail
      refine (areTeeth_c a2 _ rs 12 9 52 _ (H.out _ U1.out).2 hl2 (by omega)).mono ?_
      rintro e w2 ⟨rfl, u1⟩
      have U2 := Lib.hid (U1.out.then0 u1)
      clear u1 U1 B0 hb0 hb1 hb2
      rw [q2]
      go_wp2_with fail
      go_ret
      exact ⟨ret_bool HN.out.symm, U2.out⟩
    · have HN : Hid (trB fs rs n = inB n 1000 2500) := by show _ = _; simp [trB, q1, q2]
      go_enter Try.func22, Try.ntmps22
      go_wp2_with fail
      refine (areTeeth_c a1 _ fs 3 20 60 _ (H.out _ U0.out).1 hl1 (by omega)).mono ?_
      rintro e w1 ⟨rfl, u1⟩
      replace B0 := Lib.hid (B0.out.kept u1 (by simp))
      have U1 := Lib.hid (U0.out.then0 u1)
      clear u1 U0
      obtain ⟨hb0, hb1, hb2⟩ := B0.out.cells
      rw [q1]
      go_wp2_with fail
      refine (areTeeth_c a2 _ rs 12 9 52 _ (H.out _ U1.out).2 hl2 (by omega)).mono ?_
      rintro e w2 ⟨rfl, u1⟩
      replace B0 := Lib.hid (B0.out.kept u1 (by simp))
      have U2 := Lib.hid (U1.out.then0 u1)
      clear u1 U1 hb0 hb1 hb2
      obtain ⟨hb0, hb1, hb2⟩ := B0.out.cells
      rw [q2]
      go_wp2_with (go_at_call 36; refine (within_c _ _ _ _).mono ?_; rintro e w' ⟨rfl, rfl⟩)
      go_ret
      exact ⟨ret_bool HN.out.symm, U2.out⟩
set_option maxHeartbeats 800000 in
theorem sIsTrain_c (a1 a2 : Option Addr) (c1 c2 : Nat) (fs rs : List Int) (n : Int) (w : World) (h1 : IntsAt w a1 fs) (h2 : IntsAt w a2 rs) (hl1 : fs.length ≤ 1048576) (hl2 : rs.length ≤ 1048576) :
    Calls Try.prog 45 #[.agg #[.slice a1 fs.length c1, .slice a2 rs.length c2, .int .i64 n]] w fun e w' => e = .returned (.bool (trB fs rs n)) ∧ Upd [] w w' := by
  have H : Hid (∀ w', Upd [] w w' → IntsAt w' a1 fs ∧ IntsAt w' a2 rs) := fun w' u => ⟨h1.kept0 u, h2.kept0 u⟩
  clear h1 h2
  have B0 := Lib.hid (Box.new w (.slice a1 fs.length c1) (.slice a2 rs.length c2) (.int .i64 n) 26)
  have U0 := Lib.hid ((Upd.refl w).alloc (.cells #[.slice a1 fs.length c1, .slice a2 rs.length c2, .int .i64 n] 26))
  cases q1 : teethB fs 3 20 60
  · have HN : Hid (trB fs rs n = false) := by show _ = _; simp [trB, q1]
    go_enter Try.func45, Try.ntmps45
    go_wp2_with fail
    refine (l09Teeth_c a1 _ fs 3 20 60 _ (H.out _ U0.out).1 hl1 (by omega)).mono ?_
    rintro e w1 ⟨rfl, u1⟩
    have U1 := Lib.hid (U0.out.then0 u1)
    clear u1 U0 B0
    rw [q1]
    go_wp2_with fail
    go_ret
    exact ⟨ret_bool HN.out.symm, U1.out⟩
  · cases q2 : teethB rs 12 9 52
    · have HN : Hid (trB fs rs n = false) := by show _ = _; simp [trB, q2]
      go_enter Try.func45, Try.ntmps45
      go_wp2_with fail
      refine (l09Teeth_c a1 _ fs 3 20 60 _ (H.out _ U0.out).1 hl1 (by omega)).mono ?_
      rintro e w1 ⟨rfl, u1⟩
      replace B0 := Lib.hid (B0.out.kept u1 (by simp))
      have U1 := Lib.hid (U0.out.then0 u1)
      clear u1 U0
      obtain ⟨hb0, hb1, hb2⟩ := B0.out.cells
      rw [q1]
      go_wp2_with fail
      refine (l09Teeth_c a2 _ rs 12 9 52 _ (H.out _ U1.out).2 hl2 (by omega)).mono ?_
      rintro e w2 ⟨rfl, u1⟩
      have U2 := Lib.hid (U1.out.then0 u1)
      clear u1 U1 B0 hb0 hb1 hb2
      rw [q2]
      go_wp2_with fail
      go_ret
      exact ⟨ret_bool HN.out.symm, U2.out⟩
    · have HN : Hid (trB fs rs n = inB n 1000 2500) := by show _ = _; simp [trB, q1, q2]
      go_enter Try.func45, Try.ntmps45
      go_wp2_with fail
      refine (l09Teeth_c a1 _ fs 3 20 60 _ (H.out _ U0.out).1 hl1 (by omega)).mono ?_
      rintro e w1 ⟨rfl, u1⟩
      replace B0 := Lib.hid (B0.out.kept u1 (by simp))
      have U1 := Lib.hid (U0.out.then0 u1)
      clear u1 U0
      obtain ⟨hb0, hb1, hb2⟩ := B0.out.cells
      rw [q1]
      go_wp2_with fail
      refine (l09Teeth_c a2 _ rs 12 9 52 _ (H.out _ U1.out).2 hl2 (by omega)).mono ?_
      rintro e w2 ⟨rfl, u1⟩
      replace B0 := Lib.hid (B0.out.kept u1 (by simp))
      have U2 := Lib.hid (U1.out.then0 u1)
      clear u1 U1 hb0 hb1 hb2
      obtain ⟨hb0, hb1, hb2⟩ := B0.out.cells
      rw [q2]
      go_wp2_with (go_at_call 39; refine (l01In_c _ _ _ _).mono ?_; rintro e w' ⟨rfl, rfl⟩)
      go_ret
      exact ⟨ret_bool HN.out.symm, U2.out⟩
end Go.Proofs.Ytjnkckpebfafjaa
