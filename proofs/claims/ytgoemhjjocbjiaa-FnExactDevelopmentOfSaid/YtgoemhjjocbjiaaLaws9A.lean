/- The walks of the exact laws of chapter 9 with numbers as answers. -/
import Derived.Test.YtgoemhjjocbjiaaGearC
import Derived.Deep.RegionHeld3
namespace Go.Proofs.Ytgoemhjjocbjiaa
open Go.RowKit
set_option linter.unusedVariables false
set_option linter.unusedSimpArgs false
set_option maxHeartbeats 3200000 in
theorem FnExactIsTrain_walk (a1 a2 : Option Addr) (c1 c2 : Nat) (fs rs : List Int) (n : Int) (w : World) (h1 : IntsAt w a1 fs) (h2 : IntsAt w a2 rs) (hm1 : fs.length ≤ maxLen) (hm2 : rs.length ≤ maxLen) :
    Calls Try.prog 3 #[.agg #[.slice a1 fs.length c1, .slice a2 rs.length c2, .int .i64 n]] w (RetT w) := by
  have H : Hid (∀ w', Upd [] w w' → IntsAt w' a1 fs ∧ IntsAt w' a2 rs) := fun w' u => ⟨h1.kept0 u, h2.kept0 u⟩
  clear h1 h2
  have B0 := Lib.hid (Box.new w (.slice a1 fs.length c1) (.slice a2 rs.length c2) (.int .i64 n) 24)
  have U0 := Lib.hid ((Upd.refl w).alloc (.cells #[.slice a1 fs.length c1, .slice a2 rs.length c2, .int .i64 n] 24))
  obtain ⟨hb0, hb1, hb2⟩ := B0.out.cells
  by_cases hl : (fs.length : Int) + rs.length ≤ 1048576
  case neg =>
    have HL := Lib.hid hl
    go_enter Try.func3, Try.ntmps3
    go_wp2_with fail
    refine (szTrain_x a1 a2 _ _ _ _ _ _ (by have := HL.out; omega) hm1 hm2).mono ?_
    rintro e w1 ⟨rfl, u1⟩
    replace B0 := Lib.hid (B0.out.kept u1 (by simp))
    have U1 := Lib.hid (U0.out.then0 u1)
    clear u1 U0 hb0 hb1 hb2
    obtain ⟨hb0, hb1, hb2⟩ := B0.out.cells
    go_wp2_with fail
    go_ret
    exact ⟨rfl, U1.out⟩
  have hl1 : fs.length ≤ 1048576 := by omega
  have hl2 : rs.length ≤ 1048576 := by omega
  go_enter Try.func3, Try.ntmps3
  go_wp2_with fail
  refine (szTrain_y a1 a2 _ _ _ _ _ _ hl).mono ?_
  rintro e w1 ⟨rfl, u1⟩
  replace B0 := Lib.hid (B0.out.kept u1 (by simp))
  have U1 := Lib.hid (U0.out.then0 u1)
  clear u1 U0 hb0 hb1 hb2
  obtain ⟨hb0, hb1, hb2⟩ := B0.out.cells
  go_wp2_with fail
  -- the reference's train
  refine (toTrain_c a1 a2 _ _ fs rs n _ (H.out _ U1.out).1 (H.out _ U1.out).2 hl1 hl2).mono ?_
  rintro e w2 ⟨v1, v2, rfl, o1, o2, u1⟩
  obtain ⟨p1, d1, rfl, i1, -⟩ := o1.intsAt
  obtain ⟨p2, d2, rfl, i2, -⟩ := o2.intsAt
  replace B0 := Lib.hid (B0.out.kept u1 (by simp))
  have U2 := Lib.hid (U1.out.then0 u1)
  clear o1 o2 u1 U1 hb0 hb1 hb2
  have I := Lib.hid (show _ ∧ _ from ⟨i1, i2⟩)
  clear i1 i2
  obtain ⟨hb0, hb1, hb2⟩ := B0.out.cells
  go_wp2_with fail
  refine (sIsTrain_c p1 p2 _ _ fs rs n _ I.out.1 I.out.2 hl1 hl2).mono ?_
  rintro e w3 ⟨rfl, u1⟩
  replace B0 := Lib.hid (B0.out.kept u1 (by simp))
  have U3 := Lib.hid (U2.out.then0 u1)
  clear u1 U2 I hb0 hb1 hb2
  obtain ⟨hb0, hb1, hb2⟩ := B0.out.cells
  go_wp2_with fail
  -- the program's train
  refine (toTrain_c a1 a2 _ _ fs rs n _ (H.out _ U3.out).1 (H.out _ U3.out).2 hl1 hl2).mono ?_
  rintro e w4 ⟨v1, v2, rfl, o1, o2, u1⟩
  obtain ⟨q1, e1, rfl, i1, -⟩ := o1.intsAt
  obtain ⟨q2, e2, rfl, i2, -⟩ := o2.intsAt
  replace B0 := Lib.hid (B0.out.kept u1 (by simp))
  have U4 := Lib.hid (U3.out.then0 u1)
  have hs4 : w3.heap.size ≤ w4.heap.size := u1.size
  have L4 := Lib.hid (show _ ∧ _ from ⟨World.ownsRow.lt (w := w4) o1, World.ownsRow.lt (w := w4) o2⟩)
  have O4 := Lib.hid (show _ ∧ _ from ⟨o1, o2⟩)
  have J := Lib.hid (show _ ∧ _ from ⟨i1, i2⟩)
  clear o1 o2 i1 i2 u1 U3 hb0 hb1 hb2
  have B1f := Lib.hid (Box.new w4 (.slice q1 fs.length e1) (.slice q2 rs.length e2) (.int .i64 n) 27)
  have V5 := Lib.hid ((Upd.refl w4).alloc (.cells #[.slice q1 fs.length e1, .slice q2 rs.length e2, .int .i64 n] 27))
  obtain ⟨hb0, hb1, hb2⟩ := B1f.out.cells
  go_wp2_with fail
  clear hb0 hb1 hb2
  generalize w4.alloc (.cells #[.slice q1 fs.length e1, .slice q2 rs.length e2, .int .i64 n] 27) = w5 at B1f V5 ⊢
  obtain ⟨g1, hgb⟩ : ∃ g, w4.heap.size = g := ⟨_, rfl⟩
  have hs5 : w4.heap.size ≤ w5.heap.size := V5.out.size
  rw [hgb] at B1f hs4 hs5 ⊢
  replace B0 := Lib.hid (B0.out.kept V5.out (by simp))
  have U5 := Lib.hid (U4.out.then0 V5.out)
  refine (iIsTrain_c q1 q2 _ _ fs rs n _ (J.out.1.kept0 V5.out) (J.out.2.kept0 V5.out) hl1 hl2).mono ?_
  rintro e w6 ⟨rfl, u1⟩
  replace B0 := Lib.hid (B0.out.kept u1 (by simp))
  replace B1f := Lib.hid (B1f.out.kept u1 (by simp))
  have U6 := Lib.hid (U5.out.then0 u1)
  have V6 := Lib.hid (V5.out.then0 u1)
  clear u1 U4 U5 V5
  obtain ⟨hb0, hb1, hb2⟩ := B0.out.cells
  obtain ⟨hd0, hd1, hd2⟩ := B1f.out.cells
  have C0 := Lib.hid (B0.out.kept (Upd.refl w6).drew (by simp))
  have C1 := Lib.hid (B1f.out.kept (Upd.refl w6).drew (by simp))
  have U7 := Lib.hid (U6.out.drew)
  have V7 := Lib.hid (V6.out.drew)
  go_wp2_with fail
  go_region_held3 (fun w' => w'.cell? ⟨g1, 0, none⟩ = some (.slice q1 fs.length e1) ∧ w'.cell? ⟨g1, 1, none⟩ = some (.slice q2 rs.length e2) ∧ w'.cell? ⟨g1, 2, none⟩ = some (.int .i64 n) ∧ w'.cell? ⟨w.heap.size, 0, none⟩ = some (.slice a1 fs.length c1) ∧ w'.cell? ⟨w.heap.size, 1, none⟩ = some (.slice a2 rs.length c2) ∧ w'.cell? ⟨w.heap.size, 2, none⟩ = some (.int .i64 n))
    (first | exact ⟨hd0, hd1, hd2, hb0, hb1, hb2⟩ | exact ⟨hf0, hf1, hf2, he0, he1, he2⟩ | exact ⟨hh0, hh1, hh2, hg0, hg1, hg2⟩)
    (first
      | (go_at_call 17
         refine (toTrain_c a1 a2 _ _ fs rs n _ (H.out _ U7.out).1 (H.out _ U7.out).2 hl1 hl2).mono ?_
         rintro e w8 ⟨v1, v2, rfl, o1, o2, u1⟩
         obtain ⟨r1, x1, rfl, j1, -⟩ := o1.intsAt
         obtain ⟨r2, x2, rfl, j2, -⟩ := o2.intsAt
         have D0 := Lib.hid (C0.out.kept u1 (by simp))
         have D1 := Lib.hid (C1.out.kept u1 (by simp))
         have U8 := Lib.hid (U7.out.then0 u1)
         have V8 := Lib.hid (V7.out.then0 u1)
         clear o1 o2 u1
         have K := Lib.hid (show _ ∧ _ from ⟨j1, j2⟩)
         clear j1 j2
         obtain ⟨he0, he1, he2⟩ := D0.out.cells
         obtain ⟨hf0, hf1, hf2⟩ := D1.out.cells)
      | (go_at_call 19
         refine (eqTrain_c _ _ _ _ _ _ _ _ fs rs n _ (J.out.1.kept0 V8.out) (J.out.2.kept0 V8.out) K.out.1 K.out.2 hl1 hl2).mono ?_
         rintro e w9 ⟨rfl, u1⟩
         have E0 := Lib.hid (D0.out.kept u1 (by simp))
         have E1 := Lib.hid (D1.out.kept u1 (by simp))
         have U9 := Lib.hid (U8.out.then0 u1)
         have V9 := Lib.hid (V8.out.then0 u1)
         clear u1
         obtain ⟨hg0, hg1, hg2⟩ := E0.out.cells
         obtain ⟨hh0, hh1, hh2⟩ := E1.out.cells))
  go_wp2_with fail
  go_ret
  exact ⟨rfl, U9.out⟩
set_option maxHeartbeats 3200000 in
theorem FnExactRangeOf_walk (a1 a2 : Option Addr) (c1 c2 : Nat) (fs rs : List Int) (n : Int) (w : World) (h1 : IntsAt w a1 fs) (h2 : IntsAt w a2 rs) (hm1 : fs.length ≤ maxLen) (hm2 : rs.length ≤ maxLen) :
    Calls Try.prog 4 #[.agg #[.slice a1 fs.length c1, .slice a2 rs.length c2, .int .i64 n]] w (RetT w) := by
  have H : Hid (∀ w', Upd [] w w' → IntsAt w' a1 fs ∧ IntsAt w' a2 rs) := fun w' u => ⟨h1.kept0 u, h2.kept0 u⟩
  clear h1 h2
  have B0 := Lib.hid (Box.new w (.slice a1 fs.length c1) (.slice a2 rs.length c2) (.int .i64 n) 24)
  have U0 := Lib.hid ((Upd.refl w).alloc (.cells #[.slice a1 fs.length c1, .slice a2 rs.length c2, .int .i64 n] 24))
  obtain ⟨hb0, hb1, hb2⟩ := B0.out.cells
  by_cases hl : (fs.length : Int) + rs.length ≤ 1048576
  case neg =>
    have HL := Lib.hid hl
    go_enter Try.func4, Try.ntmps4
    go_wp2_with fail
    refine (szTrain_x a1 a2 _ _ _ _ _ _ (by have := HL.out; omega) hm1 hm2).mono ?_
    rintro e w1 ⟨rfl, u1⟩
    replace B0 := Lib.hid (B0.out.kept u1 (by simp))
    have U1 := Lib.hid (U0.out.then0 u1)
    clear u1 U0 hb0 hb1 hb2
    obtain ⟨hb0, hb1, hb2⟩ := B0.out.cells
    go_wp2_with fail
    go_ret
    exact ⟨rfl, U1.out⟩
  have hl1 : fs.length ≤ 1048576 := by omega
  have hl2 : rs.length ≤ 1048576 := by omega
  go_enter Try.func4, Try.ntmps4
  go_wp2_with fail
  refine (szTrain_y a1 a2 _ _ _ _ _ _ hl).mono ?_
  rintro e w1 ⟨rfl, u1⟩
  replace B0 := Lib.hid (B0.out.kept u1 (by simp))
  have U1 := Lib.hid (U0.out.then0 u1)
  clear u1 U0 hb0 hb1 hb2
  obtain ⟨hb0, hb1, hb2⟩ := B0.out.cells
  go_wp2_with fail
  -- the reference's train
  refine (toTrain_c a1 a2 _ _ fs rs n _ (H.out _ U1.out).1 (H.out _ U1.out).2 hl1 hl2).mono ?_
  rintro e w2 ⟨v1, v2, rfl, o1, o2, u1⟩
  obtain ⟨p1, d1, rfl, i1, -⟩ := o1.intsAt
  obtain ⟨p2, d2, rfl, i2, -⟩ := o2.intsAt
  replace B0 := Lib.hid (B0.out.kept u1 (by simp))
  have U2 := Lib.hid (U1.out.then0 u1)
  clear o1 o2 u1 U1 hb0 hb1 hb2
  have I := Lib.hid (show _ ∧ _ from ⟨i1, i2⟩)
  clear i1 i2
  obtain ⟨hb0, hb1, hb2⟩ := B0.out.cells
  go_wp2_with fail
  refine (sRangeOf_c p1 p2 _ _ fs rs n _ I.out.1 I.out.2 hl1 hl2).mono ?_
  rintro e w3 ⟨rfl, u1⟩
  replace B0 := Lib.hid (B0.out.kept u1 (by simp))
  have U3 := Lib.hid (U2.out.then0 u1)
  clear u1 U2 I hb0 hb1 hb2
  obtain ⟨hb0, hb1, hb2⟩ := B0.out.cells
  go_wp2_with fail
  -- the program's train
  refine (toTrain_c a1 a2 _ _ fs rs n _ (H.out _ U3.out).1 (H.out _ U3.out).2 hl1 hl2).mono ?_
  rintro e w4 ⟨v1, v2, rfl, o1, o2, u1⟩
  obtain ⟨q1, e1, rfl, i1, -⟩ := o1.intsAt
  obtain ⟨q2, e2, rfl, i2, -⟩ := o2.intsAt
  replace B0 := Lib.hid (B0.out.kept u1 (by simp))
  have U4 := Lib.hid (U3.out.then0 u1)
  have hs4 : w3.heap.size ≤ w4.heap.size := u1.size
  have L4 := Lib.hid (show _ ∧ _ from ⟨World.ownsRow.lt (w := w4) o1, World.ownsRow.lt (w := w4) o2⟩)
  have O4 := Lib.hid (show _ ∧ _ from ⟨o1, o2⟩)
  have J := Lib.hid (show _ ∧ _ from ⟨i1, i2⟩)
  clear o1 o2 i1 i2 u1 U3 hb0 hb1 hb2
  have B1f := Lib.hid (Box.new w4 (.slice q1 fs.length e1) (.slice q2 rs.length e2) (.int .i64 n) 27)
  have V5 := Lib.hid ((Upd.refl w4).alloc (.cells #[.slice q1 fs.length e1, .slice q2 rs.length e2, .int .i64 n] 27))
  obtain ⟨hb0, hb1, hb2⟩ := B1f.out.cells
  go_wp2_with fail
  clear hb0 hb1 hb2
  generalize w4.alloc (.cells #[.slice q1 fs.length e1, .slice q2 rs.length e2, .int .i64 n] 27) = w5 at B1f V5 ⊢
  obtain ⟨g1, hgb⟩ : ∃ g, w4.heap.size = g := ⟨_, rfl⟩
  have hs5 : w4.heap.size ≤ w5.heap.size := V5.out.size
  rw [hgb] at B1f hs4 hs5 ⊢
  replace B0 := Lib.hid (B0.out.kept V5.out (by simp))
  have U5 := Lib.hid (U4.out.then0 V5.out)
  refine (iRangeOf_c q1 q2 _ _ fs rs n _ (J.out.1.kept0 V5.out) (J.out.2.kept0 V5.out) hl1 hl2).mono ?_
  rintro e w6 ⟨rfl, u1⟩
  replace B0 := Lib.hid (B0.out.kept u1 (by simp))
  replace B1f := Lib.hid (B1f.out.kept u1 (by simp))
  have U6 := Lib.hid (U5.out.then0 u1)
  have V6 := Lib.hid (V5.out.then0 u1)
  clear u1 U4 U5 V5
  obtain ⟨hb0, hb1, hb2⟩ := B0.out.cells
  obtain ⟨hd0, hd1, hd2⟩ := B1f.out.cells
  have C0 := Lib.hid (B0.out.kept (Upd.refl w6).drew (by simp))
  have C1 := Lib.hid (B1f.out.kept (Upd.refl w6).drew (by simp))
  have U7 := Lib.hid (U6.out.drew)
  have V7 := Lib.hid (V6.out.drew)
  go_wp2_with fail
  go_region_held3 (fun w' => w'.cell? ⟨g1, 0, none⟩ = some (.slice q1 fs.length e1) ∧ w'.cell? ⟨g1, 1, none⟩ = some (.slice q2 rs.length e2) ∧ w'.cell? ⟨g1, 2, none⟩ = some (.int .i64 n) ∧ w'.cell? ⟨w.heap.size, 0, none⟩ = some (.slice a1 fs.length c1) ∧ w'.cell? ⟨w.heap.size, 1, none⟩ = some (.slice a2 rs.length c2) ∧ w'.cell? ⟨w.heap.size, 2, none⟩ = some (.int .i64 n))
    (first | exact ⟨hd0, hd1, hd2, hb0, hb1, hb2⟩ | exact ⟨hf0, hf1, hf2, he0, he1, he2⟩ | exact ⟨hh0, hh1, hh2, hg0, hg1, hg2⟩)
    (first
      | (go_at_call 17
         refine (toTrain_c a1 a2 _ _ fs rs n _ (H.out _ U7.out).1 (H.out _ U7.out).2 hl1 hl2).mono ?_
         rintro e w8 ⟨v1, v2, rfl, o1, o2, u1⟩
         obtain ⟨r1, x1, rfl, j1, -⟩ := o1.intsAt
         obtain ⟨r2, x2, rfl, j2, -⟩ := o2.intsAt
         have D0 := Lib.hid (C0.out.kept u1 (by simp))
         have D1 := Lib.hid (C1.out.kept u1 (by simp))
         have U8 := Lib.hid (U7.out.then0 u1)
         have V8 := Lib.hid (V7.out.then0 u1)
         clear o1 o2 u1
         have K := Lib.hid (show _ ∧ _ from ⟨j1, j2⟩)
         clear j1 j2
         obtain ⟨he0, he1, he2⟩ := D0.out.cells
         obtain ⟨hf0, hf1, hf2⟩ := D1.out.cells)
      | (go_at_call 19
         refine (eqTrain_c _ _ _ _ _ _ _ _ fs rs n _ (J.out.1.kept0 V8.out) (J.out.2.kept0 V8.out) K.out.1 K.out.2 hl1 hl2).mono ?_
         rintro e w9 ⟨rfl, u1⟩
         have E0 := Lib.hid (D0.out.kept u1 (by simp))
         have E1 := Lib.hid (D1.out.kept u1 (by simp))
         have U9 := Lib.hid (U8.out.then0 u1)
         have V9 := Lib.hid (V8.out.then0 u1)
         clear u1
         obtain ⟨hg0, hg1, hg2⟩ := E0.out.cells
         obtain ⟨hh0, hh1, hh2⟩ := E1.out.cells))
  go_wp2_with fail
  go_ret
  exact ⟨rfl, U9.out⟩
set_option maxHeartbeats 3200000 in
theorem FnExactSpeedAt_walk (a1 a2 : Option Addr) (c1 c2 : Nat) (fs rs : List Int) (n : Int) (k0 : Int) (k1 : Int) (k2 : Int) (w : World) (h1 : IntsAt w a1 fs) (h2 : IntsAt w a2 rs) (hm1 : fs.length ≤ maxLen) (hm2 : rs.length ≤ maxLen) :
    Calls Try.prog 5 #[.agg #[.slice a1 fs.length c1, .slice a2 rs.length c2, .int .i64 n], .int .i64 k0, .int .i64 k1, .int .i64 k2] w (RetT w) := by
  have H : Hid (∀ w', Upd [] w w' → IntsAt w' a1 fs ∧ IntsAt w' a2 rs) := fun w' u => ⟨h1.kept0 u, h2.kept0 u⟩
  clear h1 h2
  have B0 := Lib.hid (Box.new w (.slice a1 fs.length c1) (.slice a2 rs.length c2) (.int .i64 n) 24)
  have U0 := Lib.hid ((Upd.refl w).alloc (.cells #[.slice a1 fs.length c1, .slice a2 rs.length c2, .int .i64 n] 24))
  obtain ⟨hb0, hb1, hb2⟩ := B0.out.cells
  by_cases hl : (fs.length : Int) + rs.length ≤ 1048576
  case neg =>
    have HL := Lib.hid hl
    go_enter Try.func5, Try.ntmps5
    go_wp2_with fail
    refine (szTrain_x a1 a2 _ _ _ _ _ _ (by have := HL.out; omega) hm1 hm2).mono ?_
    rintro e w1 ⟨rfl, u1⟩
    replace B0 := Lib.hid (B0.out.kept u1 (by simp))
    have U1 := Lib.hid (U0.out.then0 u1)
    clear u1 U0 hb0 hb1 hb2
    obtain ⟨hb0, hb1, hb2⟩ := B0.out.cells
    go_wp2_with fail
    go_ret
    exact ⟨rfl, U1.out⟩
  have hl1 : fs.length ≤ 1048576 := by omega
  have hl2 : rs.length ≤ 1048576 := by omega
  go_enter Try.func5, Try.ntmps5
  go_wp2_with fail
  refine (szTrain_y a1 a2 _ _ _ _ _ _ hl).mono ?_
  rintro e w1 ⟨rfl, u1⟩
  replace B0 := Lib.hid (B0.out.kept u1 (by simp))
  have U1 := Lib.hid (U0.out.then0 u1)
  clear u1 U0 hb0 hb1 hb2
  obtain ⟨hb0, hb1, hb2⟩ := B0.out.cells
  go_wp2_with fail
  -- the reference's train
  refine (toTrain_c a1 a2 _ _ fs rs n _ (H.out _ U1.out).1 (H.out _ U1.out).2 hl1 hl2).mono ?_
  rintro e w2 ⟨v1, v2, rfl, o1, o2, u1⟩
  obtain ⟨p1, d1, rfl, i1, -⟩ := o1.intsAt
  obtain ⟨p2, d2, rfl, i2, -⟩ := o2.intsAt
  replace B0 := Lib.hid (B0.out.kept u1 (by simp))
  have U2 := Lib.hid (U1.out.then0 u1)
  clear o1 o2 u1 U1 hb0 hb1 hb2
  have I := Lib.hid (show _ ∧ _ from ⟨i1, i2⟩)
  clear i1 i2
  obtain ⟨hb0, hb1, hb2⟩ := B0.out.cells
  go_wp2_with fail
  refine (sSpeedAt_c p1 p2 _ _ fs rs n _ I.out.1 I.out.2 hl1 hl2 k0 k1 k2).mono ?_
  rintro e w3 ⟨rfl, u1⟩
  replace B0 := Lib.hid (B0.out.kept u1 (by simp))
  have U3 := Lib.hid (U2.out.then0 u1)
  clear u1 U2 I hb0 hb1 hb2
  obtain ⟨hb0, hb1, hb2⟩ := B0.out.cells
  go_wp2_with fail
  -- the program's train
  refine (toTrain_c a1 a2 _ _ fs rs n _ (H.out _ U3.out).1 (H.out _ U3.out).2 hl1 hl2).mono ?_
  rintro e w4 ⟨v1, v2, rfl, o1, o2, u1⟩
  obtain ⟨q1, e1, rfl, i1, -⟩ := o1.intsAt
  obtain ⟨q2, e2, rfl, i2, -⟩ := o2.intsAt
  replace B0 := Lib.hid (B0.out.kept u1 (by simp))
  have U4 := Lib.hid (U3.out.then0 u1)
  have hs4 : w3.heap.size ≤ w4.heap.size := u1.size
  have L4 := Lib.hid (show _ ∧ _ from ⟨World.ownsRow.lt (w := w4) o1, World.ownsRow.lt (w := w4) o2⟩)
  have O4 := Lib.hid (show _ ∧ _ from ⟨o1, o2⟩)
  have J := Lib.hid (show _ ∧ _ from ⟨i1, i2⟩)
  clear o1 o2 i1 i2 u1 U3 hb0 hb1 hb2
  have B1f := Lib.hid (Box.new w4 (.slice q1 fs.length e1) (.slice q2 rs.length e2) (.int .i64 n) 27)
  have V5 := Lib.hid ((Upd.refl w4).alloc (.cells #[.slice q1 fs.length e1, .slice q2 rs.length e2, .int .i64 n] 27))
  obtain ⟨hb0, hb1, hb2⟩ := B1f.out.cells
  go_wp2_with fail
  clear hb0 hb1 hb2
  generalize w4.alloc (.cells #[.slice q1 fs.length e1, .slice q2 rs.length e2, .int .i64 n] 27) = w5 at B1f V5 ⊢
  obtain ⟨g1, hgb⟩ : ∃ g, w4.heap.size = g := ⟨_, rfl⟩
  have hs5 : w4.heap.size ≤ w5.heap.size := V5.out.size
  rw [hgb] at B1f hs4 hs5 ⊢
  replace B0 := Lib.hid (B0.out.kept V5.out (by simp))
  have U5 := Lib.hid (U4.out.then0 V5.out)
  refine (iSpeedAt_c q1 q2 _ _ fs rs n _ (J.out.1.kept0 V5.out) (J.out.2.kept0 V5.out) hl1 hl2 k0 k1 k2).mono ?_
  rintro e w6 ⟨rfl, u1⟩
  replace B0 := Lib.hid (B0.out.kept u1 (by simp))
  replace B1f := Lib.hid (B1f.out.kept u1 (by simp))
  have U6 := Lib.hid (U5.out.then0 u1)
  have V6 := Lib.hid (V5.out.then0 u1)
  clear u1 U4 U5 V5
  obtain ⟨hb0, hb1, hb2⟩ := B0.out.cells
  obtain ⟨hd0, hd1, hd2⟩ := B1f.out.cells
  have C0 := Lib.hid (B0.out.kept (Upd.refl w6).drew (by simp))
  have C1 := Lib.hid (B1f.out.kept (Upd.refl w6).drew (by simp))
  have U7 := Lib.hid (U6.out.drew)
  have V7 := Lib.hid (V6.out.drew)
  go_wp2_with fail
  go_region_held3 (fun w' => w'.cell? ⟨g1, 0, none⟩ = some (.slice q1 fs.length e1) ∧ w'.cell? ⟨g1, 1, none⟩ = some (.slice q2 rs.length e2) ∧ w'.cell? ⟨g1, 2, none⟩ = some (.int .i64 n) ∧ w'.cell? ⟨w.heap.size, 0, none⟩ = some (.slice a1 fs.length c1) ∧ w'.cell? ⟨w.heap.size, 1, none⟩ = some (.slice a2 rs.length c2) ∧ w'.cell? ⟨w.heap.size, 2, none⟩ = some (.int .i64 n))
    (first | exact ⟨hd0, hd1, hd2, hb0, hb1, hb2⟩ | exact ⟨hf0, hf1, hf2, he0, he1, he2⟩ | exact ⟨hh0, hh1, hh2, hg0, hg1, hg2⟩)
    (first
      | (go_at_call 17
         refine (toTrain_c a1 a2 _ _ fs rs n _ (H.out _ U7.out).1 (H.out _ U7.out).2 hl1 hl2).mono ?_
         rintro e w8 ⟨v1, v2, rfl, o1, o2, u1⟩
         obtain ⟨r1, x1, rfl, j1, -⟩ := o1.intsAt
         obtain ⟨r2, x2, rfl, j2, -⟩ := o2.intsAt
         have D0 := Lib.hid (C0.out.kept u1 (by simp))
         have D1 := Lib.hid (C1.out.kept u1 (by simp))
         have U8 := Lib.hid (U7.out.then0 u1)
         have V8 := Lib.hid (V7.out.then0 u1)
         clear o1 o2 u1
         have K := Lib.hid (show _ ∧ _ from ⟨j1, j2⟩)
         clear j1 j2
         obtain ⟨he0, he1, he2⟩ := D0.out.cells
         obtain ⟨hf0, hf1, hf2⟩ := D1.out.cells)
      | (go_at_call 19
         refine (eqTrain_c _ _ _ _ _ _ _ _ fs rs n _ (J.out.1.kept0 V8.out) (J.out.2.kept0 V8.out) K.out.1 K.out.2 hl1 hl2).mono ?_
         rintro e w9 ⟨rfl, u1⟩
         have E0 := Lib.hid (D0.out.kept u1 (by simp))
         have E1 := Lib.hid (D1.out.kept u1 (by simp))
         have U9 := Lib.hid (U8.out.then0 u1)
         have V9 := Lib.hid (V8.out.then0 u1)
         clear u1
         obtain ⟨hg0, hg1, hg2⟩ := E0.out.cells
         obtain ⟨hh0, hh1, hh2⟩ := E1.out.cells))
  go_wp2_with fail
  go_ret
  exact ⟨rfl, U9.out⟩
set_option maxHeartbeats 3200000 in
theorem FnExactCadenceFor_walk (a1 a2 : Option Addr) (c1 c2 : Nat) (fs rs : List Int) (n : Int) (k0 : Int) (k1 : Int) (k2 : Int) (w : World) (h1 : IntsAt w a1 fs) (h2 : IntsAt w a2 rs) (hm1 : fs.length ≤ maxLen) (hm2 : rs.length ≤ maxLen) :
    Calls Try.prog 6 #[.agg #[.slice a1 fs.length c1, .slice a2 rs.length c2, .int .i64 n], .int .i64 k0, .int .i64 k1, .int .i64 k2] w (RetT w) := by
  have H : Hid (∀ w', Upd [] w w' → IntsAt w' a1 fs ∧ IntsAt w' a2 rs) := fun w' u => ⟨h1.kept0 u, h2.kept0 u⟩
  clear h1 h2
  have B0 := Lib.hid (Box.new w (.slice a1 fs.length c1) (.slice a2 rs.length c2) (.int .i64 n) 24)
  have U0 := Lib.hid ((Upd.refl w).alloc (.cells #[.slice a1 fs.length c1, .slice a2 rs.length c2, .int .i64 n] 24))
  obtain ⟨hb0, hb1, hb2⟩ := B0.out.cells
  by_cases hl : (fs.length : Int) + rs.length ≤ 1048576
  case neg =>
    have HL := Lib.hid hl
    go_enter Try.func6, Try.ntmps6
    go_wp2_with fail
    refine (szTrain_x a1 a2 _ _ _ _ _ _ (by have := HL.out; omega) hm1 hm2).mono ?_
    rintro e w1 ⟨rfl, u1⟩
    replace B0 := Lib.hid (B0.out.kept u1 (by simp))
    have U1 := Lib.hid (U0.out.then0 u1)
    clear u1 U0 hb0 hb1 hb2
    obtain ⟨hb0, hb1, hb2⟩ := B0.out.cells
    go_wp2_with fail
    go_ret
    exact ⟨rfl, U1.out⟩
  have hl1 : fs.length ≤ 1048576 := by omega
  have hl2 : rs.length ≤ 1048576 := by omega
  go_enter Try.func6, Try.ntmps6
  go_wp2_with fail
  refine (szTrain_y a1 a2 _ _ _ _ _ _ hl).mono ?_
  rintro e w1 ⟨rfl, u1⟩
  replace B0 := Lib.hid (B0.out.kept u1 (by simp))
  have U1 := Lib.hid (U0.out.then0 u1)
  clear u1 U0 hb0 hb1 hb2
  obtain ⟨hb0, hb1, hb2⟩ := B0.out.cells
  go_wp2_with fail
  -- the reference's train
  refine (toTrain_c a1 a2 _ _ fs rs n _ (H.out _ U1.out).1 (H.out _ U1.out).2 hl1 hl2).mono ?_
  rintro e w2 ⟨v1, v2, rfl, o1, o2, u1⟩
  obtain ⟨p1, d1, rfl, i1, -⟩ := o1.intsAt
  obtain ⟨p2, d2, rfl, i2, -⟩ := o2.intsAt
  replace B0 := Lib.hid (B0.out.kept u1 (by simp))
  have U2 := Lib.hid (U1.out.then0 u1)
  clear o1 o2 u1 U1 hb0 hb1 hb2
  have I := Lib.hid (show _ ∧ _ from ⟨i1, i2⟩)
  clear i1 i2
  obtain ⟨hb0, hb1, hb2⟩ := B0.out.cells
  go_wp2_with fail
  refine (sCadenceFor_c p1 p2 _ _ fs rs n _ I.out.1 I.out.2 hl1 hl2 k0 k1 k2).mono ?_
  rintro e w3 ⟨rfl, u1⟩
  replace B0 := Lib.hid (B0.out.kept u1 (by simp))
  have U3 := Lib.hid (U2.out.then0 u1)
  clear u1 U2 I hb0 hb1 hb2
  obtain ⟨hb0, hb1, hb2⟩ := B0.out.cells
  go_wp2_with fail
  -- the program's train
  refine (toTrain_c a1 a2 _ _ fs rs n _ (H.out _ U3.out).1 (H.out _ U3.out).2 hl1 hl2).mono ?_
  rintro e w4 ⟨v1, v2, rfl, o1, o2, u1⟩
  obtain ⟨q1, e1, rfl, i1, -⟩ := o1.intsAt
  obtain ⟨q2, e2, rfl, i2, -⟩ := o2.intsAt
  replace B0 := Lib.hid (B0.out.kept u1 (by simp))
  have U4 := Lib.hid (U3.out.then0 u1)
  have hs4 : w3.heap.size ≤ w4.heap.size := u1.size
  have L4 := Lib.hid (show _ ∧ _ from ⟨World.ownsRow.lt (w := w4) o1, World.ownsRow.lt (w := w4) o2⟩)
  have O4 := Lib.hid (show _ ∧ _ from ⟨o1, o2⟩)
  have J := Lib.hid (show _ ∧ _ from ⟨i1, i2⟩)
  clear o1 o2 i1 i2 u1 U3 hb0 hb1 hb2
  have B1f := Lib.hid (Box.new w4 (.slice q1 fs.length e1) (.slice q2 rs.length e2) (.int .i64 n) 27)
  have V5 := Lib.hid ((Upd.refl w4).alloc (.cells #[.slice q1 fs.length e1, .slice q2 rs.length e2, .int .i64 n] 27))
  obtain ⟨hb0, hb1, hb2⟩ := B1f.out.cells
  go_wp2_with fail
  clear hb0 hb1 hb2
  generalize w4.alloc (.cells #[.slice q1 fs.length e1, .slice q2 rs.length e2, .int .i64 n] 27) = w5 at B1f V5 ⊢
  obtain ⟨g1, hgb⟩ : ∃ g, w4.heap.size = g := ⟨_, rfl⟩
  have hs5 : w4.heap.size ≤ w5.heap.size := V5.out.size
  rw [hgb] at B1f hs4 hs5 ⊢
  replace B0 := Lib.hid (B0.out.kept V5.out (by simp))
  have U5 := Lib.hid (U4.out.then0 V5.out)
  refine (iCadenceFor_c q1 q2 _ _ fs rs n _ (J.out.1.kept0 V5.out) (J.out.2.kept0 V5.out) hl1 hl2 k0 k1 k2).mono ?_
  rintro e w6 ⟨rfl, u1⟩
  replace B0 := Lib.hid (B0.out.kept u1 (by simp))
  replace B1f := Lib.hid (B1f.out.kept u1 (by simp))
  have U6 := Lib.hid (U5.out.then0 u1)
  have V6 := Lib.hid (V5.out.then0 u1)
  clear u1 U4 U5 V5
  obtain ⟨hb0, hb1, hb2⟩ := B0.out.cells
  obtain ⟨hd0, hd1, hd2⟩ := B1f.out.cells
  have C0 := Lib.hid (B0.out.kept (Upd.refl w6).drew (by simp))
  have C1 := Lib.hid (B1f.out.kept (Upd.refl w6).drew (by simp))
  have U7 := Lib.hid (U6.out.drew)
  have V7 := Lib.hid (V6.out.drew)
  go_wp2_with fail
  go_region_held3 (fun w' => w'.cell? ⟨g1, 0, none⟩ = some (.slice q1 fs.length e1) ∧ w'.cell? ⟨g1, 1, none⟩ = some (.slice q2 rs.length e2) ∧ w'.cell? ⟨g1, 2, none⟩ = some (.int .i64 n) ∧ w'.cell? ⟨w.heap.size, 0, none⟩ = some (.slice a1 fs.length c1) ∧ w'.cell? ⟨w.heap.size, 1, none⟩ = some (.slice a2 rs.length c2) ∧ w'.cell? ⟨w.heap.size, 2, none⟩ = some (.int .i64 n))
    (first | exact ⟨hd0, hd1, hd2, hb0, hb1, hb2⟩ | exact ⟨hf0, hf1, hf2, he0, he1, he2⟩ | exact ⟨hh0, hh1, hh2, hg0, hg1, hg2⟩)
    (first
      | (go_at_call 17
         refine (toTrain_c a1 a2 _ _ fs rs n _ (H.out _ U7.out).1 (H.out _ U7.out).2 hl1 hl2).mono ?_
         rintro e w8 ⟨v1, v2, rfl, o1, o2, u1⟩
         obtain ⟨r1, x1, rfl, j1, -⟩ := o1.intsAt
         obtain ⟨r2, x2, rfl, j2, -⟩ := o2.intsAt
         have D0 := Lib.hid (C0.out.kept u1 (by simp))
         have D1 := Lib.hid (C1.out.kept u1 (by simp))
         have U8 := Lib.hid (U7.out.then0 u1)
         have V8 := Lib.hid (V7.out.then0 u1)
         clear o1 o2 u1
         have K := Lib.hid (show _ ∧ _ from ⟨j1, j2⟩)
         clear j1 j2
         obtain ⟨he0, he1, he2⟩ := D0.out.cells
         obtain ⟨hf0, hf1, hf2⟩ := D1.out.cells)
      | (go_at_call 19
         refine (eqTrain_c _ _ _ _ _ _ _ _ fs rs n _ (J.out.1.kept0 V8.out) (J.out.2.kept0 V8.out) K.out.1 K.out.2 hl1 hl2).mono ?_
         rintro e w9 ⟨rfl, u1⟩
         have E0 := Lib.hid (D0.out.kept u1 (by simp))
         have E1 := Lib.hid (D1.out.kept u1 (by simp))
         have U9 := Lib.hid (U8.out.then0 u1)
         have V9 := Lib.hid (V8.out.then0 u1)
         clear u1
         obtain ⟨hg0, hg1, hg2⟩ := E0.out.cells
         obtain ⟨hh0, hh1, hh2⟩ := E1.out.cells))
  go_wp2_with fail
  go_ret
  exact ⟨rfl, U9.out⟩
set_option maxHeartbeats 3200000 in
theorem FnExactDevelopmentOf_walk (a1 a2 : Option Addr) (c1 c2 : Nat) (fs rs : List Int) (n : Int) (k0 : Int) (k1 : Int) (w : World) (h1 : IntsAt w a1 fs) (h2 : IntsAt w a2 rs) (hm1 : fs.length ≤ maxLen) (hm2 : rs.length ≤ maxLen) :
    Calls Try.prog 7 #[.agg #[.slice a1 fs.length c1, .slice a2 rs.length c2, .int .i64 n], .int .i64 k0, .int .i64 k1] w (RetT w) := by
  have H : Hid (∀ w', Upd [] w w' → IntsAt w' a1 fs ∧ IntsAt w' a2 rs) := fun w' u => ⟨h1.kept0 u, h2.kept0 u⟩
  clear h1 h2
  have B0 := Lib.hid (Box.new w (.slice a1 fs.length c1) (.slice a2 rs.length c2) (.int .i64 n) 24)
  have U0 := Lib.hid ((Upd.refl w).alloc (.cells #[.slice a1 fs.length c1, .slice a2 rs.length c2, .int .i64 n] 24))
  obtain ⟨hb0, hb1, hb2⟩ := B0.out.cells
  by_cases hl : (fs.length : Int) + rs.length ≤ 1048576
  case neg =>
    have HL := Lib.hid hl
    go_enter Try.func7, Try.ntmps7
    go_wp2_with fail
    refine (szTrain_x a1 a2 _ _ _ _ _ _ (by have := HL.out; omega) hm1 hm2).mono ?_
    rintro e w1 ⟨rfl, u1⟩
    replace B0 := Lib.hid (B0.out.kept u1 (by simp))
    have U1 := Lib.hid (U0.out.then0 u1)
    clear u1 U0 hb0 hb1 hb2
    obtain ⟨hb0, hb1, hb2⟩ := B0.out.cells
    go_wp2_with fail
    go_ret
    exact ⟨rfl, U1.out⟩
  have hl1 : fs.length ≤ 1048576 := by omega
  have hl2 : rs.length ≤ 1048576 := by omega
  go_enter Try.func7, Try.ntmps7
  go_wp2_with fail
  refine (szTrain_y a1 a2 _ _ _ _ _ _ hl).mono ?_
  rintro e w1 ⟨rfl, u1⟩
  replace B0 := Lib.hid (B0.out.kept u1 (by simp))
  have U1 := Lib.hid (U0.out.then0 u1)
  clear u1 U0 hb0 hb1 hb2
  obtain ⟨hb0, hb1, hb2⟩ := B0.out.cells
  go_wp2_with fail
  -- the reference's train
  refine (toTrain_c a1 a2 _ _ fs rs n _ (H.out _ U1.out).1 (H.out _ U1.out).2 hl1 hl2).mono ?_
  rintro e w2 ⟨v1, v2, rfl, o1, o2, u1⟩
  obtain ⟨p1, d1, rfl, i1, -⟩ := o1.intsAt
  obtain ⟨p2, d2, rfl, i2, -⟩ := o2.intsAt
  replace B0 := Lib.hid (B0.out.kept u1 (by simp))
  have U2 := Lib.hid (U1.out.then0 u1)
  clear o1 o2 u1 U1 hb0 hb1 hb2
  have I := Lib.hid (show _ ∧ _ from ⟨i1, i2⟩)
  clear i1 i2
  obtain ⟨hb0, hb1, hb2⟩ := B0.out.cells
  go_wp2_with fail
  refine (sDevelopmentOf_c p1 p2 _ _ fs rs n _ I.out.1 I.out.2 hl1 hl2 k0 k1).mono ?_
  rintro e w3 ⟨rfl, u1⟩
  replace B0 := Lib.hid (B0.out.kept u1 (by simp))
  have U3 := Lib.hid (U2.out.then0 u1)
  clear u1 U2 I hb0 hb1 hb2
  obtain ⟨hb0, hb1, hb2⟩ := B0.out.cells
  go_wp2_with fail
  -- the program's train
  refine (toTrain_c a1 a2 _ _ fs rs n _ (H.out _ U3.out).1 (H.out _ U3.out).2 hl1 hl2).mono ?_
  rintro e w4 ⟨v1, v2, rfl, o1, o2, u1⟩
  obtain ⟨q1, e1, rfl, i1, -⟩ := o1.intsAt
  obtain ⟨q2, e2, rfl, i2, -⟩ := o2.intsAt
  replace B0 := Lib.hid (B0.out.kept u1 (by simp))
  have U4 := Lib.hid (U3.out.then0 u1)
  have hs4 : w3.heap.size ≤ w4.heap.size := u1.size
  have L4 := Lib.hid (show _ ∧ _ from ⟨World.ownsRow.lt (w := w4) o1, World.ownsRow.lt (w := w4) o2⟩)
  have O4 := Lib.hid (show _ ∧ _ from ⟨o1, o2⟩)
  have J := Lib.hid (show _ ∧ _ from ⟨i1, i2⟩)
  clear o1 o2 i1 i2 u1 U3 hb0 hb1 hb2
  have B1f := Lib.hid (Box.new w4 (.slice q1 fs.length e1) (.slice q2 rs.length e2) (.int .i64 n) 27)
  have V5 := Lib.hid ((Upd.refl w4).alloc (.cells #[.slice q1 fs.length e1, .slice q2 rs.length e2, .int .i64 n] 27))
  obtain ⟨hb0, hb1, hb2⟩ := B1f.out.cells
  go_wp2_with fail
  clear hb0 hb1 hb2
  generalize w4.alloc (.cells #[.slice q1 fs.length e1, .slice q2 rs.length e2, .int .i64 n] 27) = w5 at B1f V5 ⊢
  obtain ⟨g1, hgb⟩ : ∃ g, w4.heap.size = g := ⟨_, rfl⟩
  have hs5 : w4.heap.size ≤ w5.heap.size := V5.out.size
  rw [hgb] at B1f hs4 hs5 ⊢
  replace B0 := Lib.hid (B0.out.kept V5.out (by simp))
  have U5 := Lib.hid (U4.out.then0 V5.out)
  refine (iDevelopmentOf_c q1 q2 _ _ fs rs n _ (J.out.1.kept0 V5.out) (J.out.2.kept0 V5.out) hl1 hl2 k0 k1).mono ?_
  rintro e w6 ⟨rfl, u1⟩
  replace B0 := Lib.hid (B0.out.kept u1 (by simp))
  replace B1f := Lib.hid (B1f.out.kept u1 (by simp))
  have U6 := Lib.hid (U5.out.then0 u1)
  have V6 := Lib.hid (V5.out.then0 u1)
  clear u1 U4 U5 V5
  obtain ⟨hb0, hb1, hb2⟩ := B0.out.cells
  obtain ⟨hd0, hd1, hd2⟩ := B1f.out.cells
  have C0 := Lib.hid (B0.out.kept (Upd.refl w6).drew (by simp))
  have C1 := Lib.hid (B1f.out.kept (Upd.refl w6).drew (by simp))
  have U7 := Lib.hid (U6.out.drew)
  have V7 := Lib.hid (V6.out.drew)
  go_wp2_with fail
  go_region_held3 (fun w' => w'.cell? ⟨g1, 0, none⟩ = some (.slice q1 fs.length e1) ∧ w'.cell? ⟨g1, 1, none⟩ = some (.slice q2 rs.length e2) ∧ w'.cell? ⟨g1, 2, none⟩ = some (.int .i64 n) ∧ w'.cell? ⟨w.heap.size, 0, none⟩ = some (.slice a1 fs.length c1) ∧ w'.cell? ⟨w.heap.size, 1, none⟩ = some (.slice a2 rs.length c2) ∧ w'.cell? ⟨w.heap.size, 2, none⟩ = some (.int .i64 n))
    (first | exact ⟨hd0, hd1, hd2, hb0, hb1, hb2⟩ | exact ⟨hf0, hf1, hf2, he0, he1, he2⟩ | exact ⟨hh0, hh1, hh2, hg0, hg1, hg2⟩)
    (first
      | (go_at_call 17
         refine (toTrain_c a1 a2 _ _ fs rs n _ (H.out _ U7.out).1 (H.out _ U7.out).2 hl1 hl2).mono ?_
         rintro e w8 ⟨v1, v2, rfl, o1, o2, u1⟩
         obtain ⟨r1, x1, rfl, j1, -⟩ := o1.intsAt
         obtain ⟨r2, x2, rfl, j2, -⟩ := o2.intsAt
         have D0 := Lib.hid (C0.out.kept u1 (by simp))
         have D1 := Lib.hid (C1.out.kept u1 (by simp))
         have U8 := Lib.hid (U7.out.then0 u1)
         have V8 := Lib.hid (V7.out.then0 u1)
         clear o1 o2 u1
         have K := Lib.hid (show _ ∧ _ from ⟨j1, j2⟩)
         clear j1 j2
         obtain ⟨he0, he1, he2⟩ := D0.out.cells
         obtain ⟨hf0, hf1, hf2⟩ := D1.out.cells)
      | (go_at_call 19
         refine (eqTrain_c _ _ _ _ _ _ _ _ fs rs n _ (J.out.1.kept0 V8.out) (J.out.2.kept0 V8.out) K.out.1 K.out.2 hl1 hl2).mono ?_
         rintro e w9 ⟨rfl, u1⟩
         have E0 := Lib.hid (D0.out.kept u1 (by simp))
         have E1 := Lib.hid (D1.out.kept u1 (by simp))
         have U9 := Lib.hid (U8.out.then0 u1)
         have V9 := Lib.hid (V8.out.then0 u1)
         clear u1
         obtain ⟨hg0, hg1, hg2⟩ := E0.out.cells
         obtain ⟨hh0, hh1, hh2⟩ := E1.out.cells))
  go_wp2_with fail
  go_ret
  exact ⟨rfl, U9.out⟩
end Go.Proofs.Ytgoemhjjocbjiaa
