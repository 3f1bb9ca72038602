/- Chapter 9: szTrain. -/
import Derived.Test.YtgoemhjjocbjiaaTrain
namespace Go.Proofs.Ytgoemhjjocbjiaa
open Go.RowKit
set_option linter.unusedVariables false
set_option linter.unusedSimpArgs false
theorem szTrain_y (a1 a2 : Option Addr) (c1 c2 f r : Nat) (n : Int) (w : World) (h1 : (f : Int) + r ≤ 1048576) :
    Calls Try.prog 15 #[.agg #[.slice a1 f c1, .slice a2 r c2, .int .i64 n], .int .i64 1048576] w fun e w' => e = .returned (.int .i64 (1048576 - f - r)) ∧ Upd [] w w' := by
  have B0 := Box.new w (.slice a1 f c1) (.slice a2 r c2) (.int .i64 n) 24
  obtain ⟨hc0, hc1, hc2⟩ := B0.cells
  have U0 := Lib.hid ((Upd.refl w).alloc (.cells #[.slice a1 f c1, .slice a2 r c2, .int .i64 n] 24))
  clear B0
  go_enter Try.func15, Try.ntmps15
  go_wp2
  go_ret
  exact ⟨rfl, U0.out⟩
theorem szTrain_x (a1 a2 : Option Addr) (c1 c2 f r : Nat) (n : Int) (w : World) (h1 : ¬ (f : Int) + r ≤ 1048576) (hf : f ≤ maxLen) (hr : r ≤ maxLen) :
    Calls Try.prog 15 #[.agg #[.slice a1 f c1, .slice a2 r c2, .int .i64 n], .int .i64 1048576] w fun e w' => e = .returned (.int .i64 (-1)) ∧ Upd [] w w' := by
  have B0 := Box.new w (.slice a1 f c1) (.slice a2 r c2) (.int .i64 n) 24
  obtain ⟨hc0, hc1, hc2⟩ := B0.cells
  have U0 := Lib.hid ((Upd.refl w).alloc (.cells #[.slice a1 f c1, .slice a2 r c2, .int .i64 n] 24))
  clear B0
  unfold maxLen at hf hr
  by_cases h2 : (1048576 : Int) < f
  · go_enter Try.func15, Try.ntmps15
    go_wp2
    go_ret
    exact ⟨rfl, U0.out⟩
  · go_enter Try.func15, Try.ntmps15
    go_wp2
    go_ret
    exact ⟨rfl, U0.out⟩
theorem eqTrain_c (a1 a2 b1 b2 : Option Addr) (c1 c2 d1 d2 : Nat) (fs rs : List Int) (n : Int) (w : World) (h1 : IntsAt w a1 fs) (h2 : IntsAt w a2 rs) (k1 : IntsAt w b1 fs) (k2 : IntsAt w b2 rs) (hl1 : fs.length ≤ 1048576) (hl2 : rs.length ≤ 1048576) :
    Calls Try.prog 19 #[.agg #[.slice a1 fs.length c1, .slice a2 rs.length c2, .int .i64 n], .agg #[.slice b1 fs.length d1, .slice b2 rs.length d2, .int .i64 n]] w (RetT w) := by
  have H : Hid (∀ w', Upd [] w w' → IntsAt w' a1 fs ∧ IntsAt w' a2 rs ∧ IntsAt w' b1 fs ∧ IntsAt w' b2 rs) := fun w' u => ⟨h1.kept0 u, h2.kept0 u, k1.kept0 u, k2.kept0 u⟩
  clear h1 h2 k1 k2
  have B0 := Lib.hid (Box.new w (.slice a1 fs.length c1) (.slice a2 rs.length c2) (.int .i64 n) 27)
  go_enter Try.func19, Try.ntmps19
  go_wp2_with fail
  have B1 := Lib.hid (Box.new (w.alloc (.cells #[.slice a1 fs.length c1, .slice a2 rs.length c2, .int .i64 n] 27)) (.slice b1 fs.length d1) (.slice b2 rs.length d2) (.int .i64 n) 27)
  have U0 := Lib.hid (((Upd.refl w).alloc (.cells #[.slice a1 fs.length c1, .slice a2 rs.length c2, .int .i64 n] 27)).alloc (.cells #[.slice b1 fs.length d1, .slice b2 rs.length d2, .int .i64 n] 27))
  replace B0 := Lib.hid (B0.out.kept ((Upd.refl _).alloc (.cells #[.slice b1 fs.length d1, .slice b2 rs.length d2, .int .i64 n] 27)) (by simp))
  have S : Hid ((w.alloc (.cells #[.slice a1 fs.length c1, .slice a2 rs.length c2, .int .i64 n] 27)).heap.size = w.heap.size + 1) := by simp [Hid]
  rw [S.out] at B1
  clear S
  generalize (w.alloc (.cells #[.slice a1 fs.length c1, .slice a2 rs.length c2, .int .i64 n] 27)).alloc (.cells #[.slice b1 fs.length d1, .slice b2 rs.length d2, .int .i64 n] 27) = W at B0 B1 U0 ⊢
  refine (eqInt64S_c _ _ _ _ fs _ (H.out _ U0.out).1 (H.out _ U0.out).2.2.1 hl1).mono ?_
  rintro e w1 ⟨rfl, u1⟩
  replace B0 := Lib.hid (B0.out.kept u1 (by simp))
  replace B1 := Lib.hid (B1.out.kept u1 (by simp))
  have U1 := Lib.hid (U0.out.then0 u1)
  clear u1 U0
  have hb1 := B0.out.cells.2.1
  have hb2 := B1.out.cells.2.1
  go_wp2_with fail
  refine (eqInt64S_c _ _ _ _ rs _ (H.out _ U1.out).2.1 (H.out _ U1.out).2.2.2 hl2).mono ?_
  rintro e w2 ⟨rfl, u1⟩
  replace B0 := Lib.hid (B0.out.kept u1 (by simp))
  replace B1 := Lib.hid (B1.out.kept u1 (by simp))
  have U2 := Lib.hid (U1.out.then0 u1)
  clear u1 U1 hb1 hb2
  have hb1 := B0.out.cells.2.2
  have hb2 := B1.out.cells.2.2
  go_wp2_with fail
  go_ret
  exact ⟨rfl, U2.out⟩
end Go.Proofs.Ytgoemhjjocbjiaa
