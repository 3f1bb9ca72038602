/- The walks of the exact laws of chapter 9 with lists as answers, and the nearest gear. -/
import Derived.Test.YtgoemhjjocbjiaaGearE
import Derived.Test.YtgoemhjjocbjiaaGearF
import Derived.Deep.RegionHeld3
namespace Go.Proofs.Ytgoemhjjocbjiaa
open Go.RowKit
set_option linter.unusedVariables false
set_option linter.unusedSimpArgs false

theorem stL_len (fs rs : List Int) (n : Int) : (stL fs rs n).length ≤ 36 := by
  unfold stL
  split
  · rename_i q
    have := (ord_facts q).2.1
    rw [stN_length]; omega
  · simp
theorem rowsOf_len (P : List (Nat × Nat)) : (rowsOf P).length = P.length := by simp [rowsOf]
theorem rowsOf_row (P : List (Nat × Nat)) : ∀ r, r ∈ rowsOf P → r.length ≤ 1000 := fun r hr => by
  obtain ⟨x, -, rfl⟩ := List.mem_map.1 hr; simp
theorem ordL_len (fs rs : List Int) (n : Int) : (rowsOf (ordL fs rs n)).length ≤ 1000 := by
  rw [rowsOf_len]; unfold ordL
  split
  · rename_i q
    have := (ord_facts q).2.1
    omega
  · simp
theorem eqL_len (fs rs : List Int) (n : Int) : (rowsOf (eqL fs rs n)).length ≤ 1000 := by
  rw [rowsOf_len]; unfold eqL
  split
  · rename_i q
    have h1 := (ord_facts q).2.1
    have h2 := eqN_le fs rs (orderF fs rs) ((orderF fs rs).length - 1)
    omega
  · simp
theorem cells2_bd {R : List (List Int)} (h1 : R.length ≤ 1000) (h2 : ∀ r, r ∈ R → r.length ≤ 1000) : cells2 R ≤ 1000000 := by
  have h3 : ∀ R : List (List Int), (∀ r, r ∈ R → r.length ≤ 1000) → cells2 R ≤ 1000 * R.length := by
    intro R hR
    induction R with
    | nil => simp [cells2]
    | cons r t ih =>
      have := hR r (by simp)
      have := ih fun x hx => hR x (by simp [hx])
      simp only [cells2, List.length_cons]; omega
  have := h3 R h2
  omega
set_option maxHeartbeats 3200000 in
theorem FnExactNearestGear_walk (a1 a2 : Option Addr) (c1 c2 : Nat) (fs rs : List Int) (n : Int) (k0 : Int) (w : World) (h1 : IntsAt w a1 fs) (h2 : IntsAt w a2 rs) (hm1 : fs.length ≤ maxLen) (hm2 : rs.length ≤ maxLen) :
    Calls Try.prog 10 #[.agg #[.slice a1 fs.length c1, .slice a2 rs.length c2, .int .i64 n], .int .i64 k0] w (RetT w) := by
  have H : Hid (∀ w', Upd [] w w' → IntsAt w' a1 fs ∧ IntsAt w' a2 rs) := fun w' u => ⟨h1.kept0 u, h2.kept0 u⟩
  clear h1 h2
  have B0 := Lib.hid (Box.new w (.slice a1 fs.length c1) (.slice a2 rs.length c2) (.int .i64 n) 24)
  have U0 := Lib.hid ((Upd.refl w).alloc (.cells #[.slice a1 fs.length c1, .slice a2 rs.length c2, .int .i64 n] 24))
  obtain ⟨hb0, hb1, hb2⟩ := B0.out.cells
  by_cases hl : (fs.length : Int) + rs.length ≤ 1048576
  case neg =>
    have HL := Lib.hid hl
    go_enter Try.func10, Try.ntmps10
    go_wp2_with fail
    refine (szTrain_x a1 a2 _ _ _ _ _ _ (by have := HL.out; omega) hm1 hm2).mono ?_
    rintro e w1 ⟨rfl, u1⟩
    replace B0 := Lib.hid (B0.out.kept u1 (by simp))
    have U1 := Lib.hid (U0.out.then0 u1)
    clear u1 U0 hb0 hb1 hb2
    obtain ⟨hb0, hb1, hb2⟩ := B0.out.cells
    go_wp2_with fail
    go_ret
    exact ⟨rfl, U1.out⟩
  have hl1 : fs.length ≤ 1048576 := by omega
  have hl2 : rs.length ≤ 1048576 := by omega
  go_enter Try.func10, Try.ntmps10
  go_wp2_with fail
  refine (szTrain_y a1 a2 _ _ _ _ _ _ hl).mono ?_
  rintro e w1 ⟨rfl, u1⟩
  replace B0 := Lib.hid (B0.out.kept u1 (by simp))
  have U1 := Lib.hid (U0.out.then0 u1)
  clear u1 U0 hb0 hb1 hb2
  obtain ⟨hb0, hb1, hb2⟩ := B0.out.cells
  go_wp2_with fail
  -- the reference's train
  refine (toTrain_c a1 a2 _ _ fs rs n _ (H.out _ U1.out).1 (H.out _ U1.out).2 hl1 hl2).mono ?_
  rintro e w2 ⟨v1, v2, rfl, o1, o2, u1, ap⟩
  obtain ⟨p1, d1, rfl, i1, -⟩ := o1.intsAt
  obtain ⟨p2, d2, rfl, i2, -⟩ := o2.intsAt
  replace B0 := Lib.hid (B0.out.kept u1 (by simp))
  have U2 := Lib.hid (U1.out.then0 u1)
  clear o1 o2 u1 U1 hb0 hb1 hb2
  have I := Lib.hid (show _ ∧ _ from ⟨i1, i2⟩)
  clear i1 i2
  obtain ⟨hb0, hb1, hb2⟩ := B0.out.cells
  go_wp2_with fail
  refine (sNearestGear_c p1 p2 _ _ fs rs n _ I.out.1 I.out.2 hl1 hl2 k0).mono ?_
  rintro e w3 ⟨rfl, u1⟩
  replace B0 := Lib.hid (B0.out.kept u1 (by simp))
  have U3 := Lib.hid (U2.out.then0 u1)
  clear u1 U2 I hb0 hb1 hb2
  obtain ⟨hb0, hb1, hb2⟩ := B0.out.cells
  go_wp2_with fail
  -- the program's train
  refine (toTrain_c a1 a2 _ _ fs rs n _ (H.out _ U3.out).1 (H.out _ U3.out).2 hl1 hl2).mono ?_
  rintro e w4 ⟨v1, v2, rfl, o1, o2, u1, ap⟩
  obtain ⟨q1, e1, rfl, i1, -⟩ := o1.intsAt
  obtain ⟨q2, e2, rfl, i2, -⟩ := o2.intsAt
  replace B0 := Lib.hid (B0.out.kept u1 (by simp))
  have U4 := Lib.hid (U3.out.then0 u1)
  have hs4 : w3.heap.size ≤ w4.heap.size := u1.size
  have L4 := Lib.hid (show _ ∧ _ from ⟨World.ownsRow.lt (w := w4) o1, World.ownsRow.lt (w := w4) o2⟩)
  have O4 := Lib.hid (show _ ∧ _ from ⟨o1, o2⟩)
  have J := Lib.hid (show _ ∧ _ from ⟨i1, i2⟩)
  clear o1 o2 i1 i2 u1 U3 hb0 hb1 hb2
  have B1f := Lib.hid (Box.new w4 (.slice q1 fs.length e1) (.slice q2 rs.length e2) (.int .i64 n) 27)
  have V5 := Lib.hid ((Upd.refl w4).alloc (.cells #[.slice q1 fs.length e1, .slice q2 rs.length e2, .int .i64 n] 27))
  obtain ⟨hb0, hb1, hb2⟩ := B1f.out.cells
  go_wp2_with fail
  clear hb0 hb1 hb2
  generalize w4.alloc (.cells #[.slice q1 fs.length e1, .slice q2 rs.length e2, .int .i64 n] 27) = w5 at B1f V5 ⊢
  obtain ⟨g1, hgb⟩ : ∃ g, w4.heap.size = g := ⟨_, rfl⟩
  have hs5 : w4.heap.size ≤ w5.heap.size := V5.out.size
  rw [hgb] at B1f hs4 hs5 ⊢
  replace B0 := Lib.hid (B0.out.kept V5.out (by simp))
  have U5 := Lib.hid (U4.out.then0 V5.out)
  refine (iNearestGear_c q1 q2 _ _ fs rs n _ (J.out.1.kept0 V5.out) (J.out.2.kept0 V5.out) hl1 hl2 k0).mono ?_
  rintro e w6 ⟨rfl, u1⟩
  replace B0 := Lib.hid (B0.out.kept u1 (by simp))
  replace B1f := Lib.hid (B1f.out.kept u1 (by simp))
  have U6 := Lib.hid (U5.out.then0 u1)
  have V6 := Lib.hid (V5.out.then0 u1)
  clear u1 U4 U5 V5
  obtain ⟨hb0, hb1, hb2⟩ := B0.out.cells
  obtain ⟨hd0, hd1, hd2⟩ := B1f.out.cells
  have C0 := Lib.hid (B0.out.kept (Upd.refl w6).drew (by simp))
  have C1 := Lib.hid (B1f.out.kept (Upd.refl w6).drew (by simp))
  have U7 := Lib.hid (U6.out.drew)
  have V7 := Lib.hid (V6.out.drew)
  go_wp2_with fail
  go_region_held3 (fun w' => w'.cell? ⟨g1, 0, none⟩ = some (.slice q1 fs.length e1) ∧ w'.cell? ⟨g1, 1, none⟩ = some (.slice q2 rs.length e2) ∧ w'.cell? ⟨g1, 2, none⟩ = some (.int .i64 n) ∧ w'.cell? ⟨w.heap.size, 0, none⟩ = some (.slice a1 fs.length c1) ∧ w'.cell? ⟨w.heap.size, 1, none⟩ = some (.slice a2 rs.length c2) ∧ w'.cell? ⟨w.heap.size, 2, none⟩ = some (.int .i64 n))
    (first | exact ⟨hd0, hd1, hd2, hb0, hb1, hb2⟩ | exact ⟨hf0, hf1, hf2, he0, he1, he2⟩ | exact ⟨hh0, hh1, hh2, hg0, hg1, hg2⟩)
    (first
      | (go_at_call 17
         refine (toTrain_c a1 a2 _ _ fs rs n _ (H.out _ U7.out).1 (H.out _ U7.out).2 hl1 hl2).mono ?_
         rintro e w8 ⟨v1, v2, rfl, o1, o2, u1, ap⟩
         obtain ⟨r1, x1, rfl, j1, -⟩ := o1.intsAt
         obtain ⟨r2, x2, rfl, j2, -⟩ := o2.intsAt
         have D0 := Lib.hid (C0.out.kept u1 (by simp))
         have D1 := Lib.hid (C1.out.kept u1 (by simp))
         have U8 := Lib.hid (U7.out.then0 u1)
         have V8 := Lib.hid (V7.out.then0 u1)
         clear o1 o2 u1
         have K := Lib.hid (show _ ∧ _ from ⟨j1, j2⟩)
         clear j1 j2
         obtain ⟨he0, he1, he2⟩ := D0.out.cells
         obtain ⟨hf0, hf1, hf2⟩ := D1.out.cells)
      | (go_at_call 19
         refine (eqTrain_c _ _ _ _ _ _ _ _ fs rs n _ (J.out.1.kept0 V8.out) (J.out.2.kept0 V8.out) K.out.1 K.out.2 hl1 hl2).mono ?_
         rintro e w9 ⟨rfl, u1⟩
         have E0 := Lib.hid (D0.out.kept u1 (by simp))
         have E1 := Lib.hid (D1.out.kept u1 (by simp))
         have U9 := Lib.hid (U8.out.then0 u1)
         have V9 := Lib.hid (V8.out.then0 u1)
         clear u1
         obtain ⟨hg0, hg1, hg2⟩ := E0.out.cells
         obtain ⟨hh0, hh1, hh2⟩ := E1.out.cells))
  go_wp2_with fail
  go_ret
  exact ⟨rfl, U9.out⟩
set_option maxHeartbeats 3200000 in
theorem FnExactStepsOf_walk (a1 a2 : Option Addr) (c1 c2 : Nat) (fs rs : List Int) (n : Int) (w : World) (h1 : IntsAt w a1 fs) (h2 : IntsAt w a2 rs) (hm1 : fs.length ≤ maxLen) (hm2 : rs.length ≤ maxLen) :
    Calls Try.prog 8 #[.agg #[.slice a1 fs.length c1, .slice a2 rs.length c2, .int .i64 n]] w (RetT w) := by
  have H : Hid (∀ w', Upd [] w w' → IntsAt w' a1 fs ∧ IntsAt w' a2 rs) := fun w' u => ⟨h1.kept0 u, h2.kept0 u⟩
  clear h1 h2
  have B0 := Lib.hid (Box.new w (.slice a1 fs.length c1) (.slice a2 rs.length c2) (.int .i64 n) 24)
  have U0 := Lib.hid ((Upd.refl w).alloc (.cells #[.slice a1 fs.length c1, .slice a2 rs.length c2, .int .i64 n] 24))
  obtain ⟨hb0, hb1, hb2⟩ := B0.out.cells
  by_cases hl : (fs.length : Int) + rs.length ≤ 1048576
  case neg =>
    have HL := Lib.hid hl
    go_enter Try.func8, Try.ntmps8
    go_wp2_with fail
    refine (szTrain_x a1 a2 _ _ _ _ _ _ (by have := HL.out; omega) hm1 hm2).mono ?_
    rintro e w1 ⟨rfl, u1⟩
    replace B0 := Lib.hid (B0.out.kept u1 (by simp))
    have U1 := Lib.hid (U0.out.then0 u1)
    clear u1 U0 hb0 hb1 hb2
    obtain ⟨hb0, hb1, hb2⟩ := B0.out.cells
    go_wp2_with fail
    go_ret
    exact ⟨rfl, U1.out⟩
  have hl1 : fs.length ≤ 1048576 := by omega
  have hl2 : rs.length ≤ 1048576 := by omega
  go_enter Try.func8, Try.ntmps8
  go_wp2_with fail
  refine (szTrain_y a1 a2 _ _ _ _ _ _ hl).mono ?_
  rintro e w1 ⟨rfl, u1⟩
  replace B0 := Lib.hid (B0.out.kept u1 (by simp))
  have U1 := Lib.hid (U0.out.then0 u1)
  clear u1 U0 hb0 hb1 hb2
  obtain ⟨hb0, hb1, hb2⟩ := B0.out.cells
  go_wp2_with fail
  -- the reference's train
  refine (toTrain_c a1 a2 _ _ fs rs n _ (H.out _ U1.out).1 (H.out _ U1.out).2 hl1 hl2).mono ?_
  rintro e w2 ⟨v1, v2, rfl, o1, o2, u1, ap⟩
  obtain ⟨p1, d1, rfl, i1, -⟩ := o1.intsAt
  obtain ⟨p2, d2, rfl, i2, -⟩ := o2.intsAt
  replace B0 := Lib.hid (B0.out.kept u1 (by simp))
  have U2 := Lib.hid (U1.out.then0 u1)
  clear o1 o2 u1 U1 hb0 hb1 hb2
  have I := Lib.hid (show _ ∧ _ from ⟨i1, i2⟩)
  clear i1 i2
  obtain ⟨hb0, hb1, hb2⟩ := B0.out.cells
  go_wp2_with fail
  refine ((sStepsOf_c p1 p2 _ _ fs rs n _ I.out.1 I.out.2 hl1 hl2)).mono ?_
  rintro e w3 ⟨vs, rfl, os, u1⟩
  obtain ⟨ps, ds, rfl, is, -⟩ := os.intsAt
  have HW := Lib.hid is
  clear os is
  replace B0 := Lib.hid (B0.out.kept u1 (by simp))
  have U3 := Lib.hid (U2.out.then0 u1)
  clear u1 U2 I hb0 hb1 hb2
  obtain ⟨hb0, hb1, hb2⟩ := B0.out.cells
  obtain ⟨xs, hxs⟩ : ∃ xs, stL fs rs n = xs := ⟨_, rfl⟩
  have HXl : Hid (xs.length ≤ 1000) := by rw [← hxs]; have := stL_len fs rs n; show _ ≤ _; omega
  have HXS := Lib.hid hxs
  rw [hxs] at HW ⊢
  clear hxs
  have hxl : xs.length ≤ 1048576 := by have := HXl.out; omega
  go_wp2_with fail
  -- the program's train
  have hb3s : Hid (w.heap.size < w3.heap.size) := B0.out.lt
  refine (toTrain_c a1 a2 _ _ fs rs n _ (H.out _ U3.out).1 (H.out _ U3.out).2 hl1 hl2).mono ?_
  rintro e w4 ⟨v1, v2, rfl, o1, o2, u1, ap⟩
  obtain ⟨q1, e1, rfl, i1, -⟩ := o1.intsAt
  obtain ⟨q2, e2, rfl, i2, -⟩ := o2.intsAt
  replace B0 := Lib.hid (B0.out.kept u1 (by simp))
  have T4 := Lib.hid u1
  have AP := Lib.hid ap
  clear ap
  have HB03 : Hid (w.heap.size < w3.heap.size) := by have := B0; exact hb3s.out
  have U4 := Lib.hid (U3.out.then0 u1)
  have hs4 : w3.heap.size ≤ w4.heap.size := u1.size
  have L4 := Lib.hid (show _ ∧ _ from ⟨World.ownsRow.lt (w := w4) o1, World.ownsRow.lt (w := w4) o2⟩)
  have O4 := Lib.hid (show _ ∧ _ from ⟨o1, o2⟩)
  have J := Lib.hid (show _ ∧ _ from ⟨i1, i2⟩)
  clear o1 o2 i1 i2 u1 U3 hb0 hb1 hb2
  have B1f := Lib.hid (Box.new w4 (.slice q1 fs.length e1) (.slice q2 rs.length e2) (.int .i64 n) 27)
  have V5 := Lib.hid ((Upd.refl w4).alloc (.cells #[.slice q1 fs.length e1, .slice q2 rs.length e2, .int .i64 n] 27))
  obtain ⟨hb0, hb1, hb2⟩ := B1f.out.cells
  go_wp2_with fail
  clear hb0 hb1 hb2
  generalize w4.alloc (.cells #[.slice q1 fs.length e1, .slice q2 rs.length e2, .int .i64 n] 27) = w5 at B1f V5 ⊢
  obtain ⟨g1, hgb⟩ : ∃ g, w4.heap.size = g := ⟨_, rfl⟩
  have hs5 : w4.heap.size ≤ w5.heap.size := V5.out.size
  rw [hgb] at B1f hs4 hs5 ⊢
  replace B0 := Lib.hid (B0.out.kept V5.out (by simp))
  have U5 := Lib.hid (U4.out.then0 V5.out)
  have T5 := Lib.hid (T4.out.then0 V5.out)
  have hs3 : w3.heap.size ≤ w4.heap.size := T4.out.size
  have HL5 : Hid (∀ k, k ∈ (Value.slice q1 fs.length e1).ownBlock.toList ++ (Value.slice q2 rs.length e2).ownBlock.toList → w3.heap.size ≤ k ∧ k < w5.heap.size) := by
    intro k hk
    rcases List.mem_append.1 hk with h | h
    · have := L4.out.1 k (Option.mem_toList.1 h); omega
    · have := L4.out.2 k (Option.mem_toList.1 h); omega
  refine (iStepsOf_c q1 q2 _ _ fs rs n _ (J.out.1.kept0 V5.out) (J.out.2.kept0 V5.out) hl1 hl2).mono ?_
  rintro e w6 ⟨vg, rfl, og, u1⟩
  rw [HXS.out] at og
  obtain ⟨pg, dg, rfl, -, -⟩ := og.intsAt
  have HG := Lib.hid og
  clear og
  replace B0 := Lib.hid (B0.out.kept u1 (by simp))
  replace B1f := Lib.hid (B1f.out.kept u1 (by simp))
  have U6 := Lib.hid (U5.out.then0 u1)
  have V6 := Lib.hid (V5.out.then0 u1)
  have T6 := Lib.hid (T5.out.then0 u1)
  have hs6 : w5.heap.size ≤ w6.heap.size := u1.size
  clear u1 U4 U5 V5 T4 T5
  go_wp2_with fail
  refine (eqInt64S_c _ _ _ _ xs _ (HG.out.ints) (HW.out.kept0 T6.out) hxl).mono ?_
  rintro e w6b ⟨rfl, u1⟩
  replace B0 := Lib.hid (B0.out.kept u1 (by simp))
  replace B1f := Lib.hid (B1f.out.kept u1 (by simp))
  replace U6 := Lib.hid (U6.out.then0 u1)
  replace V6 := Lib.hid (V6.out.then0 u1)
  replace T6 := Lib.hid (T6.out.then0 u1)
  replace HG := Lib.hid (HG.out.kept0 u1)
  clear u1
  obtain ⟨hb0, hb1, hb2⟩ := B0.out.cells
  obtain ⟨hd0, hd1, hd2⟩ := B1f.out.cells
  have T0 := T6
  clear T6
  have R7 := Lib.hid ((Upd.refl w6b).drew)
  have Rr : Hid (Upd [] w6b w6b) := Upd.refl w6b
  have C0 := Lib.hid (B0.out.kept (Upd.refl w6b).drew (by simp))
  have C1 := Lib.hid (B1f.out.kept (Upd.refl w6b).drew (by simp))
  have U7 := Lib.hid (U6.out.drew)
  have V7 := Lib.hid (V6.out.drew)
  go_wp2_with fail
  go_region_held3 (fun w' => w'.cell? ⟨g1, 0, none⟩ = some (.slice q1 fs.length e1) ∧ w'.cell? ⟨g1, 1, none⟩ = some (.slice q2 rs.length e2) ∧ w'.cell? ⟨g1, 2, none⟩ = some (.int .i64 n) ∧ w'.cell? ⟨w.heap.size, 0, none⟩ = some (.slice a1 fs.length c1) ∧ w'.cell? ⟨w.heap.size, 1, none⟩ = some (.slice a2 rs.length c2) ∧ w'.cell? ⟨w.heap.size, 2, none⟩ = some (.int .i64 n))
    (first | exact ⟨hd0, hd1, hd2, hb0, hb1, hb2⟩ | exact ⟨hf0, hf1, hf2, he0, he1, he2⟩ | exact ⟨hh0, hh1, hh2, hg0, hg1, hg2⟩)
    (first
      | (go_at_call 17
         refine (toTrain_c a1 a2 _ _ fs rs n _ (H.out _ U7.out).1 (H.out _ U7.out).2 hl1 hl2).mono ?_
         rintro e w8 ⟨v1, v2, rfl, o1, o2, u1, ap⟩
         obtain ⟨r1, x1, rfl, j1, -⟩ := o1.intsAt
         obtain ⟨r2, x2, rfl, j2, -⟩ := o2.intsAt
         have D0 := Lib.hid (C0.out.kept u1 (by simp))
         have D1 := Lib.hid (C1.out.kept u1 (by simp))
         have U8 := Lib.hid (U7.out.then0 u1)
         have V8 := Lib.hid (V7.out.then0 u1)
         have R8 := Lib.hid (R7.out.then0 u1)
         clear o1 o2 u1
         have K := Lib.hid (show _ ∧ _ from ⟨j1, j2⟩)
         clear j1 j2
         obtain ⟨he0, he1, he2⟩ := D0.out.cells
         obtain ⟨hf0, hf1, hf2⟩ := D1.out.cells)
      | (go_at_call 19
         refine (eqTrain_c _ _ _ _ _ _ _ _ fs rs n _ (J.out.1.kept0 V8.out) (J.out.2.kept0 V8.out) K.out.1 K.out.2 hl1 hl2).mono ?_
         rintro e w9 ⟨rfl, u1⟩
         have E0 := Lib.hid (D0.out.kept u1 (by simp))
         have E1 := Lib.hid (D1.out.kept u1 (by simp))
         have U9 := Lib.hid (U8.out.then0 u1)
         have V9 := Lib.hid (V8.out.then0 u1)
         have R9 := Lib.hid (R8.out.then0 u1)
         clear u1
         obtain ⟨hg0, hg1, hg2⟩ := E0.out.cells
         obtain ⟨hh0, hh1, hh2⟩ := E1.out.cells))
  replace HG := Lib.hid (HG.out.kept0 R9.out)
  have T9 := Lib.hid (T0.out.then0 R9.out)
  clear hb0 hb1 hb2 hd0 hd1 hd2 he0 he1 he2 hf0 hf1 hf2 hg0 hg1 hg2 C0 C1 D0 D1 U7 V7 U8 V8 R7 R8 Rr K T0 U6 V6 B0 B1f
  obtain ⟨hd0, hd1, hd2⟩ := E1.out.cells
  go_wp2_with fail
  -- the train is marked
  refine (markTrain_c _ _ w3.heap.size fs rs n _ (O4.out.1.kept0 V9.out) (O4.out.2.kept0 V9.out) AP.out hl1 hl2).mono ?_
  rintro e w10 ⟨rfl, u1⟩
  have E0b := Lib.hid (E0.out.kept u1 (fun hm => by have := (HL5.out _ hm).1; have := HB03.out; omega))
  have U10 := Lib.hid (U9.out.after0 u1 (fun x hx => by have := (HL5.out _ hx).1; have := HB03.out; omega))
  have T10 := Lib.hid (T9.out.after0 u1 (fun x hx => (HL5.out _ hx).1))
  replace HG := Lib.hid (HG.out.kept u1 (fun x hx => (HL5.out _ hx).2))
  clear u1 U9 V9 T9 E0 E1 hd0 hd1 hd2 R9
  go_wp2_with fail
  refine (eqInt64S_c _ _ _ _ xs _ (HG.out.ints) (HW.out.kept0 T10.out) hxl).mono ?_
  rintro e w11 ⟨rfl, u1⟩
  have E0c := Lib.hid (E0b.out.kept u1 (by simp))
  have U11 := Lib.hid (U10.out.then0 u1)
  have T11 := Lib.hid (T10.out.then0 u1)
  replace HG := Lib.hid (HG.out.kept0 u1)
  clear u1 U10 T10 E0b
  go_wp2_with fail
  -- the answer is marked
  refine (markInt64S_c _ w5.heap.size 1 xs _ HG.out hxl (by omega)).mono ?_
  rintro e w12 ⟨rfl, om, u1⟩
  have HLG := Lib.hid (World.ownsRow.lt (w := w11) HG.out)
  have HM := Lib.hid om
  have HGB : Hid (∀ k, k ∈ (Value.slice pg xs.length dg).ownBlock.toList → w5.heap.size ≤ k) := fun k hk => (HLG.out k (Option.mem_toList.1 hk)).1
  have E0d := Lib.hid (E0c.out.kept u1 (fun hm => by have := HGB.out _ hm; have := HB03.out; omega))
  have U12 := Lib.hid (U11.out.after0 u1 (fun x hx => by have := HGB.out _ hx; have := HB03.out; omega))
  have T12 := Lib.hid (T11.out.after0 u1 (fun x hx => by have := HGB.out _ hx; omega))
  clear om u1 U11 T11 E0c HG
  have hcb : xs.length ≤ 1000000 := by have := HXl.out; omega
  go_wp2_with fail
  refine (heldInt64S_c _ _ xs.length 1 _ (HM.out.ints) hxl (by omega)).mono ?_
  rintro e w' ⟨rfl, rfl⟩
  obtain ⟨hb0, hb1, hb2⟩ := E0d.out.cells
  go_wp2_with fail
  -- once more
  refine (toTrain_c a1 a2 _ _ fs rs n _ (H.out _ U12.out).1 (H.out _ U12.out).2 hl1 hl2).mono ?_
  rintro e w13 ⟨v1, v2, rfl, o1, o2, u1, ap⟩
  obtain ⟨r1', x1', rfl, j1, -⟩ := o1.intsAt
  obtain ⟨r2', x2', rfl, j2, -⟩ := o2.intsAt
  have U13 := Lib.hid (U12.out.then0 u1)
  have T13 := Lib.hid (T12.out.then0 u1)
  have R13 := Lib.hid u1
  have K := Lib.hid (show _ ∧ _ from ⟨j1, j2⟩)
  clear o1 o2 j1 j2 u1 ap U12 T12 E0d hb0 hb1 hb2
  go_wp2_with fail
  refine (iStepsOf_c _ _ _ _ fs rs n _ K.out.1 K.out.2 hl1 hl2).mono ?_
  rintro e w14 ⟨vh, rfl, oh, u1⟩
  rw [HXS.out] at oh
  obtain ⟨ph, dh, rfl, -, -⟩ := oh.intsAt
  have HH := Lib.hid oh.ints
  clear oh
  have U14 := Lib.hid (U13.out.then0 u1)
  have T14 := Lib.hid (T13.out.then0 u1)
  have R14 := Lib.hid (R13.out.then0 u1)
  clear u1 U13 T13 R13 K
  go_wp2_with fail
  refine (eqInt64S_c _ _ _ _ xs _ (HH.out) (HW.out.kept0 T14.out) hxl).mono ?_
  rintro e w15 ⟨rfl, u1⟩
  have U15 := Lib.hid (U14.out.then0 u1)
  have R15 := Lib.hid (R14.out.then0 u1)
  clear u1 U14 T14 R14 HH
  go_wp2_with fail
  refine (heldInt64S_c _ _ xs.length 1 _ (OwnI.ints (HM.out.kept0 R15.out)) hxl (by omega)).mono ?_
  rintro e w' ⟨rfl, rfl⟩
  go_wp2_with fail
  go_ret
  exact ⟨rfl, U15.out⟩
set_option maxHeartbeats 3200000 in
theorem FnExactGearOrder_walk (a1 a2 : Option Addr) (c1 c2 : Nat) (fs rs : List Int) (n : Int) (w : World) (h1 : IntsAt w a1 fs) (h2 : IntsAt w a2 rs) (hm1 : fs.length ≤ maxLen) (hm2 : rs.length ≤ maxLen) :
    Calls Try.prog 9 #[.agg #[.slice a1 fs.length c1, .slice a2 rs.length c2, .int .i64 n]] w (RetT w) := by
  have H : Hid (∀ w', Upd [] w w' → IntsAt w' a1 fs ∧ IntsAt w' a2 rs) := fun w' u => ⟨h1.kept0 u, h2.kept0 u⟩
  clear h1 h2
  have B0 := Lib.hid (Box.new w (.slice a1 fs.length c1) (.slice a2 rs.length c2) (.int .i64 n) 24)
  have U0 := Lib.hid ((Upd.refl w).alloc (.cells #[.slice a1 fs.length c1, .slice a2 rs.length c2, .int .i64 n] 24))
  obtain ⟨hb0, hb1, hb2⟩ := B0.out.cells
  by_cases hl : (fs.length : Int) + rs.length ≤ 1048576
  case neg =>
    have HL := Lib.hid hl
    go_enter Try.func9, Try.ntmps9
    go_wp2_with fail
    refine (szTrain_x a1 a2 _ _ _ _ _ _ (by have := HL.out; omega) hm1 hm2).mono ?_
    rintro e w1 ⟨rfl, u1⟩
    replace B0 := Lib.hid (B0.out.kept u1 (by simp))
    have U1 := Lib.hid (U0.out.then0 u1)
    clear u1 U0 hb0 hb1 hb2
    obtain ⟨hb0, hb1, hb2⟩ := B0.out.cells
    go_wp2_with fail
    go_ret
    exact ⟨rfl, U1.out⟩
  have hl1 : fs.length ≤ 1048576 := by omega
  have hl2 : rs.length ≤ 1048576 := by omega
  go_enter Try.func9, Try.ntmps9
  go_wp2_with fail
  refine (szTrain_y a1 a2 _ _ _ _ _ _ hl).mono ?_
  rintro e w1 ⟨rfl, u1⟩
  replace B0 := Lib.hid (B0.out.kept u1 (by simp))
  have U1 := Lib.hid (U0.out.then0 u1)
  clear u1 U0 hb0 hb1 hb2
  obtain ⟨hb0, hb1, hb2⟩ := B0.out.cells
  go_wp2_with fail
  -- the reference's train
  refine (toTrain_c a1 a2 _ _ fs rs n _ (H.out _ U1.out).1 (H.out _ U1.out).2 hl1 hl2).mono ?_
  rintro e w2 ⟨v1, v2, rfl, o1, o2, u1, ap⟩
  obtain ⟨p1, d1, rfl, i1, -⟩ := o1.intsAt
  obtain ⟨p2, d2, rfl, i2, -⟩ := o2.intsAt
  replace B0 := Lib.hid (B0.out.kept u1 (by simp))
  have U2 := Lib.hid (U1.out.then0 u1)
  clear o1 o2 u1 U1 hb0 hb1 hb2
  have I := Lib.hid (show _ ∧ _ from ⟨i1, i2⟩)
  clear i1 i2
  obtain ⟨hb0, hb1, hb2⟩ := B0.out.cells
  go_wp2_with fail
  refine ((sGearOrder_c p1 p2 _ _ fs rs n _ I.out.1 I.out.2 hl1 hl2).mono fun _ _ h => NewRC.read h).mono ?_
  rintro e w3 ⟨ps, ds, rfl, is, u1⟩
  have HW := Lib.hid is
  clear is
  replace B0 := Lib.hid (B0.out.kept u1 (by simp))
  have U3 := Lib.hid (U2.out.then0 u1)
  clear u1 U2 I hb0 hb1 hb2
  obtain ⟨hb0, hb1, hb2⟩ := B0.out.cells
  obtain ⟨xs, hxs⟩ : ∃ xs, rowsOf (ordL fs rs n) = xs := ⟨_, rfl⟩
  have HXl : Hid (xs.length ≤ 1000) := by rw [← hxs]; exact ordL_len fs rs n
  have HXr : Hid (∀ r, r ∈ xs → r.length ≤ 1000) := by rw [← hxs]; exact rowsOf_row _
  have HXS := Lib.hid hxs
  rw [hxs] at HW ⊢
  clear hxs
  have hxl : xs.length ≤ 1048576 := by have := HXl.out; omega
  go_wp2_with fail
  -- the program's train
  have hb3s : Hid (w.heap.size < w3.heap.size) := B0.out.lt
  refine (toTrain_c a1 a2 _ _ fs rs n _ (H.out _ U3.out).1 (H.out _ U3.out).2 hl1 hl2).mono ?_
  rintro e w4 ⟨v1, v2, rfl, o1, o2, u1, ap⟩
  obtain ⟨q1, e1, rfl, i1, -⟩ := o1.intsAt
  obtain ⟨q2, e2, rfl, i2, -⟩ := o2.intsAt
  replace B0 := Lib.hid (B0.out.kept u1 (by simp))
  have T4 := Lib.hid u1
  have AP := Lib.hid ap
  clear ap
  have HB03 : Hid (w.heap.size < w3.heap.size) := by have := B0; exact hb3s.out
  have U4 := Lib.hid (U3.out.then0 u1)
  have hs4 : w3.heap.size ≤ w4.heap.size := u1.size
  have L4 := Lib.hid (show _ ∧ _ from ⟨World.ownsRow.lt (w := w4) o1, World.ownsRow.lt (w := w4) o2⟩)
  have O4 := Lib.hid (show _ ∧ _ from ⟨o1, o2⟩)
  have J := Lib.hid (show _ ∧ _ from ⟨i1, i2⟩)
  clear o1 o2 i1 i2 u1 U3 hb0 hb1 hb2
  have B1f := Lib.hid (Box.new w4 (.slice q1 fs.length e1) (.slice q2 rs.length e2) (.int .i64 n) 27)
  have V5 := Lib.hid ((Upd.refl w4).alloc (.cells #[.slice q1 fs.length e1, .slice q2 rs.length e2, .int .i64 n] 27))
  obtain ⟨hb0, hb1, hb2⟩ := B1f.out.cells
  go_wp2_with fail
  clear hb0 hb1 hb2
  generalize w4.alloc (.cells #[.slice q1 fs.length e1, .slice q2 rs.length e2, .int .i64 n] 27) = w5 at B1f V5 ⊢
  obtain ⟨g1, hgb⟩ : ∃ g, w4.heap.size = g := ⟨_, rfl⟩
  have hs5 : w4.heap.size ≤ w5.heap.size := V5.out.size
  rw [hgb] at B1f hs4 hs5 ⊢
  replace B0 := Lib.hid (B0.out.kept V5.out (by simp))
  have U5 := Lib.hid (U4.out.then0 V5.out)
  have T5 := Lib.hid (T4.out.then0 V5.out)
  have hs3 : w3.heap.size ≤ w4.heap.size := T4.out.size
  have HL5 : Hid (∀ k, k ∈ (Value.slice q1 fs.length e1).ownBlock.toList ++ (Value.slice q2 rs.length e2).ownBlock.toList → w3.heap.size ≤ k ∧ k < w5.heap.size) := by
    intro k hk
    rcases List.mem_append.1 hk with h | h
    · have := L4.out.1 k (Option.mem_toList.1 h); omega
    · have := L4.out.2 k (Option.mem_toList.1 h); omega
  refine (iGearOrder_c q1 q2 _ _ fs rs n _ (J.out.1.kept0 V5.out) (J.out.2.kept0 V5.out) hl1 hl2).mono ?_
  rintro e w6 ⟨vg, L, rfl, og, hrows, u1⟩
  rw [HXS.out] at hrows
  obtain ⟨pg, dg, ev, -, -⟩ := og.1.form
  rw [show (L.map valR).length = xs.length by rw [← hrows]; simp] at ev
  subst ev
  have HG := Lib.hid og
  have HR := Lib.hid hrows
  clear og hrows
  have HGr : Hid (∀ w', OwnR w' w5.heap.size (.slice pg xs.length dg) L → RowsAt w' pg xs) := fun w' h => by rw [← HR.out]; exact h.rowsAt
  have HLr : Hid (L.length ≤ 1000 ∧ ∀ x, x ∈ L → x.2.2.length ≤ 1000) := by
    constructor
    · have := congrArg List.length HR.out; simp at this; have := HXl.out; omega
    · intro x hx; exact HXr.out _ (by rw [← HR.out]; exact List.mem_map_of_mem hx)
  replace B0 := Lib.hid (B0.out.kept u1 (by simp))
  replace B1f := Lib.hid (B1f.out.kept u1 (by simp))
  have U6 := Lib.hid (U5.out.then0 u1)
  have V6 := Lib.hid (V5.out.then0 u1)
  have T6 := Lib.hid (T5.out.then0 u1)
  have hs6 : w5.heap.size ≤ w6.heap.size := u1.size
  clear u1 U4 U5 V5 T4 T5
  go_wp2_with fail
  refine (eqInt64SS_c _ _ _ _ xs _ (HGr.out _ HG.out) (HW.out.kept0 T6.out) HXl.out HXr.out).mono ?_
  rintro e w6b ⟨rfl, u1⟩
  replace B0 := Lib.hid (B0.out.kept u1 (by simp))
  replace B1f := Lib.hid (B1f.out.kept u1 (by simp))
  replace U6 := Lib.hid (U6.out.then0 u1)
  replace V6 := Lib.hid (V6.out.then0 u1)
  replace T6 := Lib.hid (T6.out.then0 u1)
  replace HG := Lib.hid (HG.out.kept0 u1)
  clear u1
  obtain ⟨hb0, hb1, hb2⟩ := B0.out.cells
  obtain ⟨hd0, hd1, hd2⟩ := B1f.out.cells
  have T0 := T6
  clear T6
  have R7 := Lib.hid ((Upd.refl w6b).drew)
  have Rr : Hid (Upd [] w6b w6b) := Upd.refl w6b
  have C0 := Lib.hid (B0.out.kept (Upd.refl w6b).drew (by simp))
  have C1 := Lib.hid (B1f.out.kept (Upd.refl w6b).drew (by simp))
  have U7 := Lib.hid (U6.out.drew)
  have V7 := Lib.hid (V6.out.drew)
  go_wp2_with fail
  go_region_held3 (fun w' => w'.cell? ⟨g1, 0, none⟩ = some (.slice q1 fs.length e1) ∧ w'.cell? ⟨g1, 1, none⟩ = some (.slice q2 rs.length e2) ∧ w'.cell? ⟨g1, 2, none⟩ = some (.int .i64 n) ∧ w'.cell? ⟨w.heap.size, 0, none⟩ = some (.slice a1 fs.length c1) ∧ w'.cell? ⟨w.heap.size, 1, none⟩ = some (.slice a2 rs.length c2) ∧ w'.cell? ⟨w.heap.size, 2, none⟩ = some (.int .i64 n))
    (first | exact ⟨hd0, hd1, hd2, hb0, hb1, hb2⟩ | exact ⟨hf0, hf1, hf2, he0, he1, he2⟩ | exact ⟨hh0, hh1, hh2, hg0, hg1, hg2⟩)
    (first
      | (go_at_call 17
         refine (toTrain_c a1 a2 _ _ fs rs n _ (H.out _ U7.out).1 (H.out _ U7.out).2 hl1 hl2).mono ?_
         rintro e w8 ⟨v1, v2, rfl, o1, o2, u1, ap⟩
         obtain ⟨r1, x1, rfl, j1, -⟩ := o1.intsAt
         obtain ⟨r2, x2, rfl, j2, -⟩ := o2.intsAt
         have D0 := Lib.hid (C0.out.kept u1 (by simp))
         have D1 := Lib.hid (C1.out.kept u1 (by simp))
         have U8 := Lib.hid (U7.out.then0 u1)
         have V8 := Lib.hid (V7.out.then0 u1)
         have R8 := Lib.hid (R7.out.then0 u1)
         clear o1 o2 u1
         have K := Lib.hid (show _ ∧ _ from ⟨j1, j2⟩)
         clear j1 j2
         obtain ⟨he0, he1, he2⟩ := D0.out.cells
         obtain ⟨hf0, hf1, hf2⟩ := D1.out.cells)
      | (go_at_call 19
         refine (eqTrain_c _ _ _ _ _ _ _ _ fs rs n _ (J.out.1.kept0 V8.out) (J.out.2.kept0 V8.out) K.out.1 K.out.2 hl1 hl2).mono ?_
         rintro e w9 ⟨rfl, u1⟩
         have E0 := Lib.hid (D0.out.kept u1 (by simp))
         have E1 := Lib.hid (D1.out.kept u1 (by simp))
         have U9 := Lib.hid (U8.out.then0 u1)
         have V9 := Lib.hid (V8.out.then0 u1)
         have R9 := Lib.hid (R8.out.then0 u1)
         clear u1
         obtain ⟨hg0, hg1, hg2⟩ := E0.out.cells
         obtain ⟨hh0, hh1, hh2⟩ := E1.out.cells))
  replace HG := Lib.hid (HG.out.kept0 R9.out)
  have T9 := Lib.hid (T0.out.then0 R9.out)
  clear hb0 hb1 hb2 hd0 hd1 hd2 he0 he1 he2 hf0 hf1 hf2 hg0 hg1 hg2 C0 C1 D0 D1 U7 V7 U8 V8 R7 R8 Rr K T0 U6 V6 B0 B1f
  obtain ⟨hd0, hd1, hd2⟩ := E1.out.cells
  go_wp2_with fail
  -- the train is marked
  refine (markTrain_c _ _ w3.heap.size fs rs n _ (O4.out.1.kept0 V9.out) (O4.out.2.kept0 V9.out) AP.out hl1 hl2).mono ?_
  rintro e w10 ⟨rfl, u1⟩
  have E0b := Lib.hid (E0.out.kept u1 (fun hm => by have := (HL5.out _ hm).1; have := HB03.out; omega))
  have U10 := Lib.hid (U9.out.after0 u1 (fun x hx => by have := (HL5.out _ hx).1; have := HB03.out; omega))
  have T10 := Lib.hid (T9.out.after0 u1 (fun x hx => (HL5.out _ hx).1))
  replace HG := Lib.hid (HG.out.kept u1 (fun x hx => (HL5.out _ hx).2))
  clear u1 U9 V9 T9 E0 E1 hd0 hd1 hd2 R9
  go_wp2_with fail
  refine (eqInt64SS_c _ _ _ _ xs _ (HGr.out _ HG.out) (HW.out.kept0 T10.out) HXl.out HXr.out).mono ?_
  rintro e w11 ⟨rfl, u1⟩
  have E0c := Lib.hid (E0b.out.kept u1 (by simp))
  have U11 := Lib.hid (U10.out.then0 u1)
  have T11 := Lib.hid (T10.out.then0 u1)
  replace HG := Lib.hid (HG.out.kept0 u1)
  clear u1 U10 T10 E0b
  go_wp2_with fail
  -- the answer is marked
  refine (markInt64SS_c _ w5.heap.size 1 L _ HG.out HLr.out.1 HLr.out.2 (by omega)).mono ?_
  rintro e w12 ⟨rfl, om, u1⟩
  have HM : Hid (∀ w', Upd [] w12 w' → RowsAt w' pg (mrows 1 xs)) := fun w' u => by
    have := (om.kept0 u).rowsAt
    rw [markE_rows, HR.out] at this
    exact this
  have HGB : Hid (∀ k, k ∈ L.map (·.1) → w5.heap.size ≤ k) := fun k hk => by
    obtain ⟨x, hx, rfl⟩ := List.mem_map.1 hk
    exact (HG.out.2.lt hx).1
  rw [HR.out]
  have E0d := Lib.hid (E0c.out.kept u1 (fun hm => by have := HGB.out _ hm; have := HB03.out; omega))
  have U12 := Lib.hid (U11.out.after0 u1 (fun x hx => by have := HGB.out _ hx; have := HB03.out; omega))
  have T12 := Lib.hid (T11.out.after0 u1 (fun x hx => by have := HGB.out _ hx; omega))
  clear om u1 U11 T11 E0c HG
  have hcb : cells2 xs ≤ 1000000 := by exact cells2_bd HXl.out HXr.out
  go_wp2_with fail
  refine (heldInt64SS_c _ _ 1 xs _ (HM.out _ (Upd.refl w12)) HXl.out HXr.out (by omega)).mono ?_
  rintro e w' ⟨rfl, rfl⟩
  obtain ⟨hb0, hb1, hb2⟩ := E0d.out.cells
  go_wp2_with fail
  -- once more
  refine (toTrain_c a1 a2 _ _ fs rs n _ (H.out _ U12.out).1 (H.out _ U12.out).2 hl1 hl2).mono ?_
  rintro e w13 ⟨v1, v2, rfl, o1, o2, u1, ap⟩
  obtain ⟨r1', x1', rfl, j1, -⟩ := o1.intsAt
  obtain ⟨r2', x2', rfl, j2, -⟩ := o2.intsAt
  have U13 := Lib.hid (U12.out.then0 u1)
  have T13 := Lib.hid (T12.out.then0 u1)
  have R13 := Lib.hid u1
  have K := Lib.hid (show _ ∧ _ from ⟨j1, j2⟩)
  clear o1 o2 j1 j2 u1 ap U12 T12 E0d hb0 hb1 hb2
  go_wp2_with fail
  refine (iGearOrder_c _ _ _ _ fs rs n _ K.out.1 K.out.2 hl1 hl2).mono ?_
  rintro e w14 ⟨vh, Lh, rfl, oh, hrows, u1⟩
  rw [HXS.out] at hrows
  obtain ⟨ph, dh, ev, -, -⟩ := oh.1.form
  rw [show (Lh.map valR).length = xs.length by rw [← hrows]; simp] at ev
  subst ev
  have HH : Hid (RowsAt w14 ph xs) := by have := oh.rowsAt; rw [hrows] at this; exact this
  clear oh hrows
  have U14 := Lib.hid (U13.out.then0 u1)
  have T14 := Lib.hid (T13.out.then0 u1)
  have R14 := Lib.hid (R13.out.then0 u1)
  clear u1 U13 T13 R13 K
  go_wp2_with fail
  refine (eqInt64SS_c _ _ _ _ xs _ (HH.out) (HW.out.kept0 T14.out) HXl.out HXr.out).mono ?_
  rintro e w15 ⟨rfl, u1⟩
  have U15 := Lib.hid (U14.out.then0 u1)
  have R15 := Lib.hid (R14.out.then0 u1)
  clear u1 U14 T14 R14 HH
  go_wp2_with fail
  refine (heldInt64SS_c _ _ 1 xs _ (HM.out _ R15.out) HXl.out HXr.out (by omega)).mono ?_
  rintro e w' ⟨rfl, rfl⟩
  go_wp2_with fail
  go_ret
  exact ⟨rfl, U15.out⟩
set_option maxHeartbeats 3200000 in
theorem FnExactEqualGears_walk (a1 a2 : Option Addr) (c1 c2 : Nat) (fs rs : List Int) (n : Int) (w : World) (h1 : IntsAt w a1 fs) (h2 : IntsAt w a2 rs) (hm1 : fs.length ≤ maxLen) (hm2 : rs.length ≤ maxLen) :
    Calls Try.prog 11 #[.agg #[.slice a1 fs.length c1, .slice a2 rs.length c2, .int .i64 n]] w (RetT w) := by
  have H : Hid (∀ w', Upd [] w w' → IntsAt w' a1 fs ∧ IntsAt w' a2 rs) := fun w' u => ⟨h1.kept0 u, h2.kept0 u⟩
  clear h1 h2
  have B0 := Lib.hid (Box.new w (.slice a1 fs.length c1) (.slice a2 rs.length c2) (.int .i64 n) 24)
  have U0 := Lib.hid ((Upd.refl w).alloc (.cells #[.slice a1 fs.length c1, .slice a2 rs.length c2, .int .i64 n] 24))
  obtain ⟨hb0, hb1, hb2⟩ := B0.out.cells
  by_cases hl : (fs.length : Int) + rs.length ≤ 1048576
  case neg =>
    have HL := Lib.hid hl
    go_enter Try.func11, Try.ntmps11
    go_wp2_with fail
    refine (szTrain_x a1 a2 _ _ _ _ _ _ (by have := HL.out; omega) hm1 hm2).mono ?_
    rintro e w1 ⟨rfl, u1⟩
    replace B0 := Lib.hid (B0.out.kept u1 (by simp))
    have U1 := Lib.hid (U0.out.then0 u1)
    clear u1 U0 hb0 hb1 hb2
    obtain ⟨hb0, hb1, hb2⟩ := B0.out.cells
    go_wp2_with fail
    go_ret
    exact ⟨rfl, U1.out⟩
  have hl1 : fs.length ≤ 1048576 := by omega
  have hl2 : rs.length ≤ 1048576 := by omega
  go_enter Try.func11, Try.ntmps11
  go_wp2_with fail
  refine (szTrain_y a1 a2 _ _ _ _ _ _ hl).mono ?_
  rintro e w1 ⟨rfl, u1⟩
  replace B0 := Lib.hid (B0.out.kept u1 (by simp))
  have U1 := Lib.hid (U0.out.then0 u1)
  clear u1 U0 hb0 hb1 hb2
  obtain ⟨hb0, hb1, hb2⟩ := B0.out.cells
  go_wp2_with fail
  -- the reference's train
  refine (toTrain_c a1 a2 _ _ fs rs n _ (H.out _ U1.out).1 (H.out _ U1.out).2 hl1 hl2).mono ?_
  rintro e w2 ⟨v1, v2, rfl, o1, o2, u1, ap⟩
  obtain ⟨p1, d1, rfl, i1, -⟩ := o1.intsAt
  obtain ⟨p2, d2, rfl, i2, -⟩ := o2.intsAt
  replace B0 := Lib.hid (B0.out.kept u1 (by simp))
  have U2 := Lib.hid (U1.out.then0 u1)
  clear o1 o2 u1 U1 hb0 hb1 hb2
  have I := Lib.hid (show _ ∧ _ from ⟨i1, i2⟩)
  clear i1 i2
  obtain ⟨hb0, hb1, hb2⟩ := B0.out.cells
  go_wp2_with fail
  refine ((sEqualGears_c p1 p2 _ _ fs rs n _ I.out.1 I.out.2 hl1 hl2)).mono ?_
  rintro e w3 ⟨ps, ds, rfl, is, u1⟩
  have HW := Lib.hid is
  clear is
  replace B0 := Lib.hid (B0.out.kept u1 (by simp))
  have U3 := Lib.hid (U2.out.then0 u1)
  clear u1 U2 I hb0 hb1 hb2
  obtain ⟨hb0, hb1, hb2⟩ := B0.out.cells
  obtain ⟨xs, hxs⟩ : ∃ xs, rowsOf (eqL fs rs n) = xs := ⟨_, rfl⟩
  have HXl : Hid (xs.length ≤ 1000) := by rw [← hxs]; exact eqL_len fs rs n
  have HXr : Hid (∀ r, r ∈ xs → r.length ≤ 1000) := by rw [← hxs]; exact rowsOf_row _
  have HXS := Lib.hid hxs
  rw [hxs] at HW ⊢
  clear hxs
  have hxl : xs.length ≤ 1048576 := by have := HXl.out; omega
  go_wp2_with fail
  -- the program's train
  have hb3s : Hid (w.heap.size < w3.heap.size) := B0.out.lt
  refine (toTrain_c a1 a2 _ _ fs rs n _ (H.out _ U3.out).1 (H.out _ U3.out).2 hl1 hl2).mono ?_
  rintro e w4 ⟨v1, v2, rfl, o1, o2, u1, ap⟩
  obtain ⟨q1, e1, rfl, i1, -⟩ := o1.intsAt
  obtain ⟨q2, e2, rfl, i2, -⟩ := o2.intsAt
  replace B0 := Lib.hid (B0.out.kept u1 (by simp))
  have T4 := Lib.hid u1
  have AP := Lib.hid ap
  clear ap
  have HB03 : Hid (w.heap.size < w3.heap.size) := by have := B0; exact hb3s.out
  have U4 := Lib.hid (U3.out.then0 u1)
  have hs4 : w3.heap.size ≤ w4.heap.size := u1.size
  have L4 := Lib.hid (show _ ∧ _ from ⟨World.ownsRow.lt (w := w4) o1, World.ownsRow.lt (w := w4) o2⟩)
  have O4 := Lib.hid (show _ ∧ _ from ⟨o1, o2⟩)
  have J := Lib.hid (show _ ∧ _ from ⟨i1, i2⟩)
  clear o1 o2 i1 i2 u1 U3 hb0 hb1 hb2
  have B1f := Lib.hid (Box.new w4 (.slice q1 fs.length e1) (.slice q2 rs.length e2) (.int .i64 n) 27)
  have V5 := Lib.hid ((Upd.refl w4).alloc (.cells #[.slice q1 fs.length e1, .slice q2 rs.length e2, .int .i64 n] 27))
  obtain ⟨hb0, hb1, hb2⟩ := B1f.out.cells
  go_wp2_with fail
  clear hb0 hb1 hb2
  generalize w4.alloc (.cells #[.slice q1 fs.length e1, .slice q2 rs.length e2, .int .i64 n] 27) = w5 at B1f V5 ⊢
  obtain ⟨g1, hgb⟩ : ∃ g, w4.heap.size = g := ⟨_, rfl⟩
  have hs5 : w4.heap.size ≤ w5.heap.size := V5.out.size
  rw [hgb] at B1f hs4 hs5 ⊢
  replace B0 := Lib.hid (B0.out.kept V5.out (by simp))
  have U5 := Lib.hid (U4.out.then0 V5.out)
  have T5 := Lib.hid (T4.out.then0 V5.out)
  have hs3 : w3.heap.size ≤ w4.heap.size := T4.out.size
  have HL5 : Hid (∀ k, k ∈ (Value.slice q1 fs.length e1).ownBlock.toList ++ (Value.slice q2 rs.length e2).ownBlock.toList → w3.heap.size ≤ k ∧ k < w5.heap.size) := by
    intro k hk
    rcases List.mem_append.1 hk with h | h
    · have := L4.out.1 k (Option.mem_toList.1 h); omega
    · have := L4.out.2 k (Option.mem_toList.1 h); omega
  refine (iEqualGears_c q1 q2 _ _ fs rs n _ (J.out.1.kept0 V5.out) (J.out.2.kept0 V5.out) hl1 hl2).mono ?_
  rintro e w6 ⟨vg, L, rfl, og, hrows, u1⟩
  rw [HXS.out] at hrows
  obtain ⟨pg, dg, ev, -, -⟩ := og.1.form
  rw [show (L.map valR).length = xs.length by rw [← hrows]; simp] at ev
  subst ev
  have HG := Lib.hid og
  have HR := Lib.hid hrows
  clear og hrows
  have HGr : Hid (∀ w', OwnR w' w5.heap.size (.slice pg xs.length dg) L → RowsAt w' pg xs) := fun w' h => by rw [← HR.out]; exact h.rowsAt
  have HLr : Hid (L.length ≤ 1000 ∧ ∀ x, x ∈ L → x.2.2.length ≤ 1000) := by
    constructor
    · have := congrArg List.length HR.out; simp at this; have := HXl.out; omega
    · intro x hx; exact HXr.out _ (by rw [← HR.out]; exact List.mem_map_of_mem hx)
  replace B0 := Lib.hid (B0.out.kept u1 (by simp))
  replace B1f := Lib.hid (B1f.out.kept u1 (by simp))
  have U6 := Lib.hid (U5.out.then0 u1)
  have V6 := Lib.hid (V5.out.then0 u1)
  have T6 := Lib.hid (T5.out.then0 u1)
  have hs6 : w5.heap.size ≤ w6.heap.size := u1.size
  clear u1 U4 U5 V5 T4 T5
  go_wp2_with fail
  refine (eqInt64SS_c _ _ _ _ xs _ (HGr.out _ HG.out) (HW.out.kept0 T6.out) HXl.out HXr.out).mono ?_
  rintro e w6b ⟨rfl, u1⟩
  replace B0 := Lib.hid (B0.out.kept u1 (by simp))
  replace B1f := Lib.hid (B1f.out.kept u1 (by simp))
  replace U6 := Lib.hid (U6.out.then0 u1)
  replace V6 := Lib.hid (V6.out.then0 u1)
  replace T6 := Lib.hid (T6.out.then0 u1)
  replace HG := Lib.hid (HG.out.kept0 u1)
  clear u1
  obtain ⟨hb0, hb1, hb2⟩ := B0.out.cells
  obtain ⟨hd0, hd1, hd2⟩ := B1f.out.cells
  have T0 := T6
  clear T6
  have R7 := Lib.hid ((Upd.refl w6b).drew)
  have Rr : Hid (Upd [] w6b w6b) := Upd.refl w6b
  have C0 := Lib.hid (B0.out.kept (Upd.refl w6b).drew (by simp))
  have C1 := Lib.hid (B1f.out.kept (Upd.refl w6b).drew (by simp))
  have U7 := Lib.hid (U6.out.drew)
  have V7 := Lib.hid (V6.out.drew)
  go_wp2_with fail
  go_region_held3 (fun w' => w'.cell? ⟨g1, 0, none⟩ = some (.slice q1 fs.length e1) ∧ w'.cell? ⟨g1, 1, none⟩ = some (.slice q2 rs.length e2) ∧ w'.cell? ⟨g1, 2, none⟩ = some (.int .i64 n) ∧ w'.cell? ⟨w.heap.size, 0, none⟩ = some (.slice a1 fs.length c1) ∧ w'.cell? ⟨w.heap.size, 1, none⟩ = some (.slice a2 rs.length c2) ∧ w'.cell? ⟨w.heap.size, 2, none⟩ = some (.int .i64 n))
    (first | exact ⟨hd0, hd1, hd2, hb0, hb1, hb2⟩ | exact ⟨hf0, hf1, hf2, he0, he1, he2⟩ | exact ⟨hh0, hh1, hh2, hg0, hg1, hg2⟩)
    (first
      | (go_at_call 17
         refine (toTrain_c a1 a2 _ _ fs rs n _ (H.out _ U7.out).1 (H.out _ U7.out).2 hl1 hl2).mono ?_
         rintro e w8 ⟨v1, v2, rfl, o1, o2, u1, ap⟩
         obtain ⟨r1, x1, rfl, j1, -⟩ := o1.intsAt
         obtain ⟨r2, x2, rfl, j2, -⟩ := o2.intsAt
         have D0 := Lib.hid (C0.out.kept u1 (by simp))
         have D1 := Lib.hid (C1.out.kept u1 (by simp))
         have U8 := Lib.hid (U7.out.then0 u1)
         have V8 := Lib.hid (V7.out.then0 u1)
         have R8 := Lib.hid (R7.out.then0 u1)
         clear o1 o2 u1
         have K := Lib.hid (show _ ∧ _ from ⟨j1, j2⟩)
         clear j1 j2
         obtain ⟨he0, he1, he2⟩ := D0.out.cells
         obtain ⟨hf0, hf1, hf2⟩ := D1.out.cells)
      | (go_at_call 19
         refine (eqTrain_c _ _ _ _ _ _ _ _ fs rs n _ (J.out.1.kept0 V8.out) (J.out.2.kept0 V8.out) K.out.1 K.out.2 hl1 hl2).mono ?_
         rintro e w9 ⟨rfl, u1⟩
         have E0 := Lib.hid (D0.out.kept u1 (by simp))
         have E1 := Lib.hid (D1.out.kept u1 (by simp))
         have U9 := Lib.hid (U8.out.then0 u1)
         have V9 := Lib.hid (V8.out.then0 u1)
         have R9 := Lib.hid (R8.out.then0 u1)
         clear u1
         obtain ⟨hg0, hg1, hg2⟩ := E0.out.cells
         obtain ⟨hh0, hh1, hh2⟩ := E1.out.cells))
  replace HG := Lib.hid (HG.out.kept0 R9.out)
  have T9 := Lib.hid (T0.out.then0 R9.out)
  clear hb0 hb1 hb2 hd0 hd1 hd2 he0 he1 he2 hf0 hf1 hf2 hg0 hg1 hg2 C0 C1 D0 D1 U7 V7 U8 V8 R7 R8 Rr K T0 U6 V6 B0 B1f
  obtain ⟨hd0, hd1, hd2⟩ := E1.out.cells
  go_wp2_with fail
  -- the train is marked
  refine (markTrain_c _ _ w3.heap.size fs rs n _ (O4.out.1.kept0 V9.out) (O4.out.2.kept0 V9.out) AP.out hl1 hl2).mono ?_
  rintro e w10 ⟨rfl, u1⟩
  have E0b := Lib.hid (E0.out.kept u1 (fun hm => by have := (HL5.out _ hm).1; have := HB03.out; omega))
  have U10 := Lib.hid (U9.out.after0 u1 (fun x hx => by have := (HL5.out _ hx).1; have := HB03.out; omega))
  have T10 := Lib.hid (T9.out.after0 u1 (fun x hx => (HL5.out _ hx).1))
  replace HG := Lib.hid (HG.out.kept u1 (fun x hx => (HL5.out _ hx).2))
  clear u1 U9 V9 T9 E0 E1 hd0 hd1 hd2 R9
  go_wp2_with fail
  refine (eqInt64SS_c _ _ _ _ xs _ (HGr.out _ HG.out) (HW.out.kept0 T10.out) HXl.out HXr.out).mono ?_
  rintro e w11 ⟨rfl, u1⟩
  have E0c := Lib.hid (E0b.out.kept u1 (by simp))
  have U11 := Lib.hid (U10.out.then0 u1)
  have T11 := Lib.hid (T10.out.then0 u1)
  replace HG := Lib.hid (HG.out.kept0 u1)
  clear u1 U10 T10 E0b
  go_wp2_with fail
  -- the answer is marked
  refine (markInt64SS_c _ w5.heap.size 1 L _ HG.out HLr.out.1 HLr.out.2 (by omega)).mono ?_
  rintro e w12 ⟨rfl, om, u1⟩
  have HM : Hid (∀ w', Upd [] w12 w' → RowsAt w' pg (mrows 1 xs)) := fun w' u => by
    have := (om.kept0 u).rowsAt
    rw [markE_rows, HR.out] at this
    exact this
  have HGB : Hid (∀ k, k ∈ L.map (·.1) → w5.heap.size ≤ k) := fun k hk => by
    obtain ⟨x, hx, rfl⟩ := List.mem_map.1 hk
    exact (HG.out.2.lt hx).1
  rw [HR.out]
  have E0d := Lib.hid (E0c.out.kept u1 (fun hm => by have := HGB.out _ hm; have := HB03.out; omega))
  have U12 := Lib.hid (U11.out.after0 u1 (fun x hx => by have := HGB.out _ hx; have := HB03.out; omega))
  have T12 := Lib.hid (T11.out.after0 u1 (fun x hx => by have := HGB.out _ hx; omega))
  clear om u1 U11 T11 E0c HG
  have hcb : cells2 xs ≤ 1000000 := by exact cells2_bd HXl.out HXr.out
  go_wp2_with fail
  refine (heldInt64SS_c _ _ 1 xs _ (HM.out _ (Upd.refl w12)) HXl.out HXr.out (by omega)).mono ?_
  rintro e w' ⟨rfl, rfl⟩
  obtain ⟨hb0, hb1, hb2⟩ := E0d.out.cells
  go_wp2_with fail
  -- once more
  refine (toTrain_c a1 a2 _ _ fs rs n _ (H.out _ U12.out).1 (H.out _ U12.out).2 hl1 hl2).mono ?_
  rintro e w13 ⟨v1, v2, rfl, o1, o2, u1, ap⟩
  obtain ⟨r1', x1', rfl, j1, -⟩ := o1.intsAt
  obtain ⟨r2', x2', rfl, j2, -⟩ := o2.intsAt
  have U13 := Lib.hid (U12.out.then0 u1)
  have T13 := Lib.hid (T12.out.then0 u1)
  have R13 := Lib.hid u1
  have K := Lib.hid (show _ ∧ _ from ⟨j1, j2⟩)
  clear o1 o2 j1 j2 u1 ap U12 T12 E0d hb0 hb1 hb2
  go_wp2_with fail
  refine (iEqualGears_c _ _ _ _ fs rs n _ K.out.1 K.out.2 hl1 hl2).mono ?_
  rintro e w14 ⟨vh, Lh, rfl, oh, hrows, u1⟩
  rw [HXS.out] at hrows
  obtain ⟨ph, dh, ev, -, -⟩ := oh.1.form
  rw [show (Lh.map valR).length = xs.length by rw [← hrows]; simp] at ev
  subst ev
  have HH : Hid (RowsAt w14 ph xs) := by have := oh.rowsAt; rw [hrows] at this; exact this
  clear oh hrows
  have U14 := Lib.hid (U13.out.then0 u1)
  have T14 := Lib.hid (T13.out.then0 u1)
  have R14 := Lib.hid (R13.out.then0 u1)
  clear u1 U13 T13 R13 K
  go_wp2_with fail
  refine (eqInt64SS_c _ _ _ _ xs _ (HH.out) (HW.out.kept0 T14.out) HXl.out HXr.out).mono ?_
  rintro e w15 ⟨rfl, u1⟩
  have U15 := Lib.hid (U14.out.then0 u1)
  have R15 := Lib.hid (R14.out.then0 u1)
  clear u1 U14 T14 R14 HH
  go_wp2_with fail
  refine (heldInt64SS_c _ _ 1 xs _ (HM.out _ R15.out) HXl.out HXr.out (by omega)).mono ?_
  rintro e w' ⟨rfl, rfl⟩
  go_wp2_with fail
  go_ret
  exact ⟨rfl, U15.out⟩
end Go.Proofs.Ytgoemhjjocbjiaa
