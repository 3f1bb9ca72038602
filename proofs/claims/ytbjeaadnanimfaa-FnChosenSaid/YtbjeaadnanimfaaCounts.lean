/- Chapter 5: SpokeCounts. -/
import Derived.Test.YtbjeaadnanimfaaSpoke2
import Derived.Test.YtbjeaadnanimfaaSlices
namespace Go.Proofs.Ytbjeaadnanimfaa
open Go.RowKit Go.Sort
set_option linter.unusedVariables false
set_option linter.unusedSimpArgs false

theorem rows1 {w : World} {B : Nat} (hB : B ≤ w.heap.size) (a b : Int) :
    OwnR ((w.alloc (.cells #[.int .i64 a, .int .i64 b] 2)).alloc (.cells #[.slice (some ⟨w.heap.size, 0, none⟩) 2 2] 24)) B (.slice (some ⟨w.heap.size + 1, 0, none⟩) 1 1) [(w.heap.size, 2, [a, b])] := by
  have h1 : (w.alloc (.cells #[.int .i64 a, .int .i64 b] 2)).heap.size = w.heap.size + 1 := by simp
  have o1 := OwnI.lit2 hB a b
  have o2 : OwnV ((w.alloc (.cells #[.int .i64 a, .int .i64 b] 2)).alloc (.cells #[.slice (some ⟨w.heap.size, 0, none⟩) 2 2] 24)) B (.slice (some ⟨(w.alloc (.cells #[.int .i64 a, .int .i64 b] 2)).heap.size, 0, none⟩) 1 1) [.slice (some ⟨w.heap.size, 0, none⟩) 2 2] :=
    World.ownsRow_lit _ #[.slice (some ⟨w.heap.size, 0, none⟩) 2 2] 1 (by omega) (by unfold maxLen; omega) rfl
  rw [h1] at o2
  refine ⟨o2, ⟨fun e he => ?_, by simp⟩⟩
  rw [List.mem_singleton.1 he]
  exact o1.kept0 ((Upd.refl _).alloc _)
theorem rows2 {w : World} {B : Nat} (hB : B ≤ w.heap.size) (a b c d : Int) :
    OwnR (((w.alloc (.cells #[.int .i64 a, .int .i64 b] 2)).alloc (.cells #[.int .i64 c, .int .i64 d] 2)).alloc (.cells #[.slice (some ⟨w.heap.size, 0, none⟩) 2 2, .slice (some ⟨w.heap.size + 1, 0, none⟩) 2 2] 24)) B (.slice (some ⟨w.heap.size + 1 + 1, 0, none⟩) 2 2) [(w.heap.size, 2, [a, b]), (w.heap.size + 1, 2, [c, d])] := by
  have h1 : (w.alloc (.cells #[.int .i64 a, .int .i64 b] 2)).heap.size = w.heap.size + 1 := by simp
  have h2 : ((w.alloc (.cells #[.int .i64 a, .int .i64 b] 2)).alloc (.cells #[.int .i64 c, .int .i64 d] 2)).heap.size = w.heap.size + 1 + 1 := by simp
  have o1 := OwnI.lit2 hB a b
  have o3 := OwnI.lit2 (w := w.alloc (.cells #[.int .i64 a, .int .i64 b] 2)) (B := B) (by omega) c d
  rw [h1] at o3
  have o2 : OwnV (((w.alloc (.cells #[.int .i64 a, .int .i64 b] 2)).alloc (.cells #[.int .i64 c, .int .i64 d] 2)).alloc (.cells #[.slice (some ⟨w.heap.size, 0, none⟩) 2 2, .slice (some ⟨w.heap.size + 1, 0, none⟩) 2 2] 24)) B (.slice (some ⟨((w.alloc (.cells #[.int .i64 a, .int .i64 b] 2)).alloc (.cells #[.int .i64 c, .int .i64 d] 2)).heap.size, 0, none⟩) 2 2) [.slice (some ⟨w.heap.size, 0, none⟩) 2 2, .slice (some ⟨w.heap.size + 1, 0, none⟩) 2 2] :=
    World.ownsRow_lit _ #[.slice (some ⟨w.heap.size, 0, none⟩) 2 2, .slice (some ⟨w.heap.size + 1, 0, none⟩) 2 2] 2 (by omega) (by unfold maxLen; omega) rfl
  rw [h2] at o2
  refine ⟨o2, ⟨fun e he => ?_, by simp⟩⟩
  simp only [List.mem_cons, List.not_mem_nil, or_false] at he
  rcases he with rfl | rfl
  · exact (o1.kept0 ((Upd.refl _).alloc _)).kept0 ((Upd.refl _).alloc _)
  · exact o3.kept0 ((Upd.refl _).alloc _)
def cntL (h l r lo ro rh d o k : Int) : List (List Int) :=
  if whB h l r lo ro rh d o k then
    (if lenV h l r lo ro rh d o k false = lenV h l r lo ro rh d o k true then [[lenV h l r lo ro rh d o k false, h]]
     else [[min (lenV h l r lo ro rh d o k false) (lenV h l r lo ro rh d o k true), h / 2], [max (lenV h l r lo ro rh d o k false) (lenV h l r lo ro rh d o k true), h / 2]])
  else []
/-- New rows beside a code. -/
def RowsP (w : World) (R : List (List Int)) (code : Int) (e : Ending) (w' : World) : Prop := ∃ v L, e = .returned (.tuple #[v, .int .i64 code]) ∧ OwnR w' w.heap.size v L ∧ L.map (·.2.2) = R ∧ Upd [] w w'
set_option maxRecDepth 20000 in
set_option maxHeartbeats 800000 in
theorem iCounts_c (h l r lo ro rh d o k : Int) (w : World) : Calls Try.prog 23 #[.agg #[.int .i64 h, .int .i64 l, .int .i64 r, .int .i64 lo, .int .i64 ro, .int .i64 rh, .int .i64 d, .int .i64 o, .int .i64 k]] w (RowsP w (cntL h l r lo ro rh d o k) (whE h l r lo ro rh d o k)) := by
  have HS0 : Hid (∀ w', Upd [] (w.alloc (.cells #[.int .i64 h, .int .i64 l, .int .i64 r, .int .i64 lo, .int .i64 ro, .int .i64 rh, .int .i64 d, .int .i64 o, .int .i64 k] 34)) w' → w'.cell? ⟨w.heap.size, 0, none⟩ = some (.int .i64 h) ∧ w'.cell? ⟨w.heap.size, 1, none⟩ = some (.int .i64 l) ∧ w'.cell? ⟨w.heap.size, 2, none⟩ = some (.int .i64 r) ∧ w'.cell? ⟨w.heap.size, 3, none⟩ = some (.int .i64 lo) ∧ w'.cell? ⟨w.heap.size, 4, none⟩ = some (.int .i64 ro) ∧ w'.cell? ⟨w.heap.size, 5, none⟩ = some (.int .i64 rh) ∧ w'.cell? ⟨w.heap.size, 6, none⟩ = some (.int .i64 d) ∧ w'.cell? ⟨w.heap.size, 7, none⟩ = some (.int .i64 o) ∧ w'.cell? ⟨w.heap.size, 8, none⟩ = some (.int .i64 k)) := fun w' u => ((Blk.new w [h, l, r, lo, ro, rh, d, o, k] 34).kept0 u).whC
  have U : Hid (Upd [] w (w.alloc (.cells #[.int .i64 h, .int .i64 l, .int .i64 r, .int .i64 lo, .int .i64 ro, .int .i64 rh, .int .i64 d, .int .i64 o, .int .i64 k] 34))) := (Upd.refl w).alloc _
  obtain ⟨X, hX⟩ : ∃ X, w.heap.size = X := ⟨_, rfl⟩
  obtain ⟨w1, hw1⟩ : ∃ W, w.alloc (.cells #[.int .i64 h, .int .i64 l, .int .i64 r, .int .i64 lo, .int .i64 ro, .int .i64 rh, .int .i64 d, .int .i64 o, .int .i64 k] 34) = W := ⟨_, rfl⟩
  have HS : Hid (∀ w', Upd [] w1 w' → w'.cell? ⟨X, 0, none⟩ = some (.int .i64 h) ∧ w'.cell? ⟨X, 1, none⟩ = some (.int .i64 l) ∧ w'.cell? ⟨X, 2, none⟩ = some (.int .i64 r) ∧ w'.cell? ⟨X, 3, none⟩ = some (.int .i64 lo) ∧ w'.cell? ⟨X, 4, none⟩ = some (.int .i64 ro) ∧ w'.cell? ⟨X, 5, none⟩ = some (.int .i64 rh) ∧ w'.cell? ⟨X, 6, none⟩ = some (.int .i64 d) ∧ w'.cell? ⟨X, 7, none⟩ = some (.int .i64 o) ∧ w'.cell? ⟨X, 8, none⟩ = some (.int .i64 k)) := by rw [← hw1, ← hX]; exact HS0
  rw [hw1] at U
  obtain ⟨c0, c1, c2, c3, c4, c5, c6, c7, c8⟩ := HS.out w1 (Upd.refl _)
  clear HS0
  cases q : whB h l r lo ro rh d o k
  · have HE : Hid (whE h l r lo ro rh d o k = 1) := by show _ = _; simp [whE, q]
    have HN : Hid (cntL h l r lo ro rh d o k = []) := by show _ = _; simp [cntL, q]
    go_enter Try.func23, Try.ntmps23
    go_wp2_with fail
    try rw [hw1]
    clear hw1 hX
    refine (iIsWheel_c _ _ _ _ _ _ _ _ _ _).mono ?_
    rintro e w2 ⟨rfl, hu⟩
    have V := Lib.hid hu
    rw [q]
    clear hu c0 c1 c2 c3 c4 c5 c6 c7 c8
    obtain ⟨c0, c1, c2, c3, c4, c5, c6, c7, c8⟩ := HS.out _ V.out
    go_wp2_with fail
    go_ret2
    rw [HE.out]
    exact ⟨_, [], rfl, ⟨OwnV.nil _ _, Inn.nil _ _⟩, HN.out.symm, U.out.then0 V.out⟩
  · have HE : Hid (whE h l r lo ro rh d o k = 0) := by show _ = _; simp [whE, q]
    have HQ := Lib.hid q
    obtain ⟨hh, -⟩ := whB_t q
    have hb1 := (lenV_in false q).2
    have hb2 := (lenV_in true q).2
    have hq1 : IntKind.i64.wrap (h.tdiv 2) = h / 2 := by rw [Int.tdiv_eq_ediv_of_nonneg (by omega)]; exact IntWalk.i64_in _ (by omega)
    have hq2 : IntKind.i64.wrap (2 * (h / 2)) = h := by rw [show 2 * (h / 2) = h by omega]; exact IntWalk.i64_in _ (by omega)
    have HB : Hid (w.heap.size ≤ w1.heap.size) := U.out.size
    obtain ⟨p, HP⟩ : ∃ x, Hid (lenV h l r lo ro rh d o k false = x) := ⟨_, rfl⟩
    obtain ⟨p2, HP2⟩ : ∃ x, Hid (lenV h l r lo ro rh d o k true = x) := ⟨_, rfl⟩
    have HL : Hid (∀ (b : Bool) (w : World), Calls Try.prog 47 #[.agg #[.int .i64 h, .int .i64 l, .int .i64 r, .int .i64 lo, .int .i64 ro, .int .i64 rh, .int .i64 d, .int .i64 o, .int .i64 k], .bool b] w fun e w' => e = .returned (.int .i64 (cond b p2 p)) ∧ Upd [] w w') := fun b w => by
      cases b
      · rw [show cond false p2 p = lenV h l r lo ro rh d o k false from HP.out.symm]; exact iLen_c h l r lo ro rh d o k false w q
      · rw [show cond true p2 p = lenV h l r lo ro rh d o k true from HP2.out.symm]; exact iLen_c h l r lo ro rh d o k true w q
    clear hb1 hb2
    by_cases e1 : p = p2
    · subst e1
      have HN : Hid (cntL h l r lo ro rh d o k = [[p, h]]) := by show _ = _; unfold cntL; rw [if_pos q, HP.out, HP2.out, if_pos rfl]
      go_enter Try.func23, Try.ntmps23
      go_wp2_with fail
      try rw [hw1]
      clear hw1 hX
      refine (iIsWheel_c _ _ _ _ _ _ _ _ _ _).mono ?_
      rintro e w2 ⟨rfl, hu⟩
      have V := Lib.hid hu
      rw [q]
      clear hu c0 c1 c2 c3 c4 c5 c6 c7 c8
      obtain ⟨c0, c1, c2, c3, c4, c5, c6, c7, c8⟩ := HS.out _ V.out
      clear q
      go_wp2_with fail
      have r0 := cell_regrown c0
      have r1 := cell_regrown c1
      have r2 := cell_regrown c2
      have r3 := cell_regrown c3
      have r4 := cell_regrown c4
      have r5 := cell_regrown c5
      have r6 := cell_regrown c6
      have r7 := cell_regrown c7
      have r8 := cell_regrown c8
      refine wp_region_quiet_below (by kernel_rfl) (by kernel_rfl) ?_
      repeat (go_big_quiet_step (first | (go_at_call 47; exact Calls.regrown_of ((HL.out _ _).mono fun _ _ hh => ⟨by have h0 := hh.1; simp only [cond_true, cond_false] at h0; exact h0, hh.2.below⟩))))
      refine wpQuiet_nil ?_
      intro _ hw'
      obtain ⟨⟨dq, osq⟩, hw''⟩ := hw'
      subst hw''
      have V3 := Lib.hid (V.out.then0 (Upd.regrown w2 dq osq))
      clear r0 r1 r2 r3 r4 r5 r6 r7 r8 c0 c1 c2 c3 c4 c5 c6 c7 c8
      generalize grow (redrawn w2 dq) osq = w3 at V3 ⊢
      obtain ⟨c0, c1, c2, c3, c4, c5, c6, c7, c8⟩ := HS.out _ V3.out
      go_wp2_with fail
      go_ret2
      rw [HE.out]
      refine ⟨_, _, rfl, rows1 (Nat.le_trans HB.out V3.out.size) p h, HN.out.symm, ?_⟩
      exact U.out.then0 ((V3.out.alloc _).alloc _)
    · have hb : (p == p2) = false := beq_eq_false_iff_ne.2 e1
      have hm0 : Hid (cntL h l r lo ro rh d o k = [[min p p2, h / 2], [max p p2, h / 2]]) := by show _ = _; unfold cntL; rw [if_pos q, HP.out, HP2.out, if_neg e1]
      by_cases e2 : p < p2
      · have m1 : min p p2 = p := by omega
        have m2 : max p p2 = p2 := by omega
        have m3 : ¬ p2 < p := by omega
        have HN : Hid (cntL h l r lo ro rh d o k = [[p, h / 2], [p2, h / 2]]) := by show _ = _; rw [hm0.out, m1, m2]
        clear hm0
        go_enter Try.func23, Try.ntmps23
        go_wp2_with fail
        try rw [hw1]
        clear hw1 hX
        refine (iIsWheel_c _ _ _ _ _ _ _ _ _ _).mono ?_
        rintro e w2 ⟨rfl, hu⟩
        have V := Lib.hid hu
        rw [q]
        clear hu c0 c1 c2 c3 c4 c5 c6 c7 c8
        obtain ⟨c0, c1, c2, c3, c4, c5, c6, c7, c8⟩ := HS.out _ V.out
        clear q
        go_wp2_with fail
        have r0 := cell_regrown c0
        have r1 := cell_regrown c1
        have r2 := cell_regrown c2
        have r3 := cell_regrown c3
        have r4 := cell_regrown c4
        have r5 := cell_regrown c5
        have r6 := cell_regrown c6
        have r7 := cell_regrown c7
        have r8 := cell_regrown c8
        refine wp_region_quiet_below (by kernel_rfl) (by kernel_rfl) ?_
        repeat (go_big_quiet_step (first | (go_at_call 47; exact Calls.regrown_of ((HL.out _ _).mono fun _ _ hh => ⟨by have h0 := hh.1; simp only [cond_true, cond_false] at h0; exact h0, hh.2.below⟩))))
        refine wpQuiet_nil ?_
        intro _ hw'
        obtain ⟨⟨dq, osq⟩, hw''⟩ := hw'
        subst hw''
        have V3 := Lib.hid (V.out.then0 (Upd.regrown w2 dq osq))
        clear r0 r1 r2 r3 r4 r5 r6 r7 r8 c0 c1 c2 c3 c4 c5 c6 c7 c8
        generalize grow (redrawn w2 dq) osq = w3 at V3 ⊢
        obtain ⟨c0, c1, c2, c3, c4, c5, c6, c7, c8⟩ := HS.out _ V3.out
        have d0 := (HS.out _ (V3.out.alloc (.cells #[.int .i64 p, .int .i64 (h / 2)] 2))).1
        go_wp2_with fail
        go_ret2
        rw [HE.out]
        refine ⟨_, _, rfl, rows2 (Nat.le_trans HB.out V3.out.size) p (h / 2) p2 (h / 2), HN.out.symm, ?_⟩
        exact U.out.then0 (((V3.out.alloc _).alloc _).alloc _)
      · have m1 : min p p2 = p2 := by omega
        have m2 : max p p2 = p := by omega
        have m3 : p2 < p := by omega
        have HN : Hid (cntL h l r lo ro rh d o k = [[p2, h / 2], [p, h / 2]]) := by show _ = _; rw [hm0.out, m1, m2]
        clear hm0
        go_enter Try.func23, Try.ntmps23
        go_wp2_with fail
        try rw [hw1]
        clear hw1 hX
        refine (iIsWheel_c _ _ _ _ _ _ _ _ _ _).mono ?_
        rintro e w2 ⟨rfl, hu⟩
        have V := Lib.hid hu
        rw [q]
        clear hu c0 c1 c2 c3 c4 c5 c6 c7 c8
        obtain ⟨c0, c1, c2, c3, c4, c5, c6, c7, c8⟩ := HS.out _ V.out
        clear q
        go_wp2_with fail
        have r0 := cell_regrown c0
        have r1 := cell_regrown c1
        have r2 := cell_regrown c2
        have r3 := cell_regrown c3
        have r4 := cell_regrown c4
        have r5 := cell_regrown c5
        have r6 := cell_regrown c6
        have r7 := cell_regrown c7
        have r8 := cell_regrown c8
        refine wp_region_quiet_below (by kernel_rfl) (by kernel_rfl) ?_
        repeat (go_big_quiet_step (first | (go_at_call 47; exact Calls.regrown_of ((HL.out _ _).mono fun _ _ hh => ⟨by have h0 := hh.1; simp only [cond_true, cond_false] at h0; exact h0, hh.2.below⟩))))
        refine wpQuiet_nil ?_
        intro _ hw'
        obtain ⟨⟨dq, osq⟩, hw''⟩ := hw'
        subst hw''
        have V3 := Lib.hid (V.out.then0 (Upd.regrown w2 dq osq))
        clear r0 r1 r2 r3 r4 r5 r6 r7 r8 c0 c1 c2 c3 c4 c5 c6 c7 c8
        generalize grow (redrawn w2 dq) osq = w3 at V3 ⊢
        obtain ⟨c0, c1, c2, c3, c4, c5, c6, c7, c8⟩ := HS.out _ V3.out
        have d0 := (HS.out _ (V3.out.alloc (.cells #[.int .i64 p2, .int .i64 (h / 2)] 2))).1
        go_wp2_with fail
        go_ret2
        rw [HE.out]
        refine ⟨_, _, rfl, rows2 (Nat.le_trans HB.out V3.out.size) p2 (h / 2) p (h / 2), HN.out.symm, ?_⟩
        exact U.out.then0 (((V3.out.alloc _).alloc _).alloc _)
set_option maxRecDepth 20000 in
set_option maxHeartbeats 800000 in
theorem sCounts_c (h l r lo ro rh d o k : Int) (w : World) : Calls Try.prog 24 #[.agg #[.int .i64 h, .int .i64 l, .int .i64 r, .int .i64 lo, .int .i64 ro, .int .i64 rh, .int .i64 d, .int .i64 o, .int .i64 k]] w (RowsP w (cntL h l r lo ro rh d o k) (whE h l r lo ro rh d o k)) := by
  have HS0 : Hid (∀ w', Upd [] (w.alloc (.cells #[.int .i64 h, .int .i64 l, .int .i64 r, .int .i64 lo, .int .i64 ro, .int .i64 rh, .int .i64 d, .int .i64 o, .int .i64 k] 34)) w' → w'.cell? ⟨w.heap.size, 0, none⟩ = some (.int .i64 h) ∧ w'.cell? ⟨w.heap.size, 1, none⟩ = some (.int .i64 l) ∧ w'.cell? ⟨w.heap.size, 2, none⟩ = some (.int .i64 r) ∧ w'.cell? ⟨w.heap.size, 3, none⟩ = some (.int .i64 lo) ∧ w'.cell? ⟨w.heap.size, 4, none⟩ = some (.int .i64 ro) ∧ w'.cell? ⟨w.heap.size, 5, none⟩ = some (.int .i64 rh) ∧ w'.cell? ⟨w.heap.size, 6, none⟩ = some (.int .i64 d) ∧ w'.cell? ⟨w.heap.size, 7, none⟩ = some (.int .i64 o) ∧ w'.cell? ⟨w.heap.size, 8, none⟩ = some (.int .i64 k)) := fun w' u => ((Blk.new w [h, l, r, lo, ro, rh, d, o, k] 34).kept0 u).whC
  have U : Hid (Upd [] w (w.alloc (.cells #[.int .i64 h, .int .i64 l, .int .i64 r, .int .i64 lo, .int .i64 ro, .int .i64 rh, .int .i64 d, .int .i64 o, .int .i64 k] 34))) := (Upd.refl w).alloc _
  obtain ⟨X, hX⟩ : ∃ X, w.heap.size = X := ⟨_, rfl⟩
  obtain ⟨w1, hw1⟩ : ∃ W, w.alloc (.cells #[.int .i64 h, .int .i64 l, .int .i64 r, .int .i64 lo, .int .i64 ro, .int .i64 rh, .int .i64 d, .int .i64 o, .int .i64 k] 34) = W := ⟨_, rfl⟩
  have HS : Hid (∀ w', Upd [] w1 w' → w'.cell? ⟨X, 0, none⟩ = some (.int .i64 h) ∧ w'.cell? ⟨X, 1, none⟩ = some (.int .i64 l) ∧ w'.cell? ⟨X, 2, none⟩ = some (.int .i64 r) ∧ w'.cell? ⟨X, 3, none⟩ = some (.int .i64 lo) ∧ w'.cell? ⟨X, 4, none⟩ = some (.int .i64 ro) ∧ w'.cell? ⟨X, 5, none⟩ = some (.int .i64 rh) ∧ w'.cell? ⟨X, 6, none⟩ = some (.int .i64 d) ∧ w'.cell? ⟨X, 7, none⟩ = some (.int .i64 o) ∧ w'.cell? ⟨X, 8, none⟩ = some (.int .i64 k)) := by rw [← hw1, ← hX]; exact HS0
  rw [hw1] at U
  obtain ⟨c0, c1, c2, c3, c4, c5, c6, c7, c8⟩ := HS.out w1 (Upd.refl _)
  clear HS0
  cases q : whB h l r lo ro rh d o k
  · have HE : Hid (whE h l r lo ro rh d o k = 1) := by show _ = _; simp [whE, q]
    have HN : Hid (cntL h l r lo ro rh d o k = []) := by show _ = _; simp [cntL, q]
    go_enter Try.func24, Try.ntmps24
    go_wp2_with fail
    try rw [hw1]
    clear hw1 hX
    refine (sIsWheel_c _ _ _ _ _ _ _ _ _ _).mono ?_
    rintro e w2 ⟨rfl, hu⟩
    have V := Lib.hid hu
    rw [q]
    clear hu c0 c1 c2 c3 c4 c5 c6 c7 c8
    obtain ⟨c0, c1, c2, c3, c4, c5, c6, c7, c8⟩ := HS.out _ V.out
    go_wp2_with fail
    go_ret2
    rw [HE.out]
    exact ⟨_, [], rfl, ⟨OwnV.nil _ _, Inn.nil _ _⟩, HN.out.symm, U.out.then0 V.out⟩
  · have HE : Hid (whE h l r lo ro rh d o k = 0) := by show _ = _; simp [whE, q]
    have HQ := Lib.hid q
    obtain ⟨hh, -⟩ := whB_t q
    have hb1 := (lenV_in false q).2
    have hb2 := (lenV_in true q).2
    have hq1 : IntKind.i64.wrap (h.tdiv 2) = h / 2 := by rw [Int.tdiv_eq_ediv_of_nonneg (by omega)]; exact IntWalk.i64_in _ (by omega)
    have hq2 : IntKind.i64.wrap (2 * (h / 2)) = h := by rw [show 2 * (h / 2) = h by omega]; exact IntWalk.i64_in _ (by omega)
    have HB : Hid (w.heap.size ≤ w1.heap.size) := U.out.size
    obtain ⟨p, HP⟩ : ∃ x, Hid (lenV h l r lo ro rh d o k false = x) := ⟨_, rfl⟩
    obtain ⟨p2, HP2⟩ : ∃ x, Hid (lenV h l r lo ro rh d o k true = x) := ⟨_, rfl⟩
    have HL : Hid (∀ (b : Bool) (w : World), Calls Try.prog 45 #[.agg #[.int .i64 h, .int .i64 l, .int .i64 r, .int .i64 lo, .int .i64 ro, .int .i64 rh, .int .i64 d, .int .i64 o, .int .i64 k], .bool b] w fun e w' => e = .returned (.int .i64 (cond b p2 p)) ∧ Upd [] w w') := fun b w => by
      cases b
      · rw [show cond false p2 p = lenV h l r lo ro rh d o k false from HP.out.symm]; exact sLen_c h l r lo ro rh d o k false w q
      · rw [show cond true p2 p = lenV h l r lo ro rh d o k true from HP2.out.symm]; exact sLen_c h l r lo ro rh d o k true w q
    clear hb1 hb2
    by_cases e1 : p = p2
    · subst e1
      have HN : Hid (cntL h l r lo ro rh d o k = [[p, h]]) := by show _ = _; unfold cntL; rw [if_pos q, HP.out, HP2.out, if_pos rfl]
      go_enter Try.func24, Try.ntmps24
      go_wp2_with fail
      try rw [hw1]
      clear hw1 hX
      refine (sIsWheel_c _ _ _ _ _ _ _ _ _ _).mono ?_
      rintro e w2 ⟨rfl, hu⟩
      have V := Lib.hid hu
      rw [q]
      clear hu c0 c1 c2 c3 c4 c5 c6 c7 c8
      obtain ⟨c0, c1, c2, c3, c4, c5, c6, c7, c8⟩ := HS.out _ V.out
      clear q
      go_wp2_with fail
      have r0 := cell_regrown c0
      have r1 := cell_regrown c1
      have r2 := cell_regrown c2
      have r3 := cell_regrown c3
      have r4 := cell_regrown c4
      have r5 := cell_regrown c5
      have r6 := cell_regrown c6
      have r7 := cell_regrown c7
      have r8 := cell_regrown c8
      refine wp_region_quiet_below (by kernel_rfl) (by kernel_rfl) ?_
      repeat (go_big_quiet_step (first | (go_at_call 45; exact Calls.regrown_of ((HL.out _ _).mono fun _ _ hh => ⟨by have h0 := hh.1; simp only [cond_true, cond_false] at h0; exact h0, hh.2.below⟩))))
      refine wpQuiet_nil ?_
      intro _ hw'
      obtain ⟨⟨dq, osq⟩, hw''⟩ := hw'
      subst hw''
      have V3 := Lib.hid (V.out.then0 (Upd.regrown w2 dq osq))
      clear r0 r1 r2 r3 r4 r5 r6 r7 r8 c0 c1 c2 c3 c4 c5 c6 c7 c8
      generalize grow (redrawn w2 dq) osq = w3 at V3 ⊢
      obtain ⟨c0, c1, c2, c3, c4, c5, c6, c7, c8⟩ := HS.out _ V3.out
      go_wp2_with fail
      go_ret2
      rw [HE.out]
      refine ⟨_, _, rfl, rows1 (Nat.le_trans HB.out V3.out.size) p h, HN.out.symm, ?_⟩
      exact U.out.then0 ((V3.out.alloc _).alloc _)
    · have hb : (p == p2) = false := beq_eq_false_iff_ne.2 e1
      have hm0 : Hid (cntL h l r lo ro rh d o k = [[min p p2, h / 2], [max p p2, h / 2]]) := by show _ = _; unfold cntL; rw [if_pos q, HP.out, HP2.out, if_neg e1]
      by_cases e2 : p < p2
      · have m1 : min p p2 = p := by omega
        have m2 : max p p2 = p2 := by omega
        have m3 : ¬ p2 < p := by omega
        have HN : Hid (cntL h l r lo ro rh d o k = [[p, h / 2], [p2, h / 2]]) := by show _ = _; rw [hm0.out, m1, m2]
        clear hm0
        go_enter Try.func24, Try.ntmps24
        go_wp2_with fail
        try rw [hw1]
        clear hw1 hX
        refine (sIsWheel_c _ _ _ _ _ _ _ _ _ _).mono ?_
        rintro e w2 ⟨rfl, hu⟩
        have V := Lib.hid hu
        rw [q]
        clear hu c0 c1 c2 c3 c4 c5 c6 c7 c8
        obtain ⟨c0, c1, c2, c3, c4, c5, c6, c7, c8⟩ := HS.out _ V.out
        clear q
        go_wp2_with fail
        have r0 := cell_regrown c0
        have r1 := cell_regrown c1
        have r2 := cell_regrown c2
        have r3 := cell_regrown c3
        have r4 := cell_regrown c4
        have r5 := cell_regrown c5
        have r6 := cell_regrown c6
        have r7 := cell_regrown c7
        have r8 := cell_regrown c8
        refine wp_region_quiet_below (by kernel_rfl) (by kernel_rfl) ?_
        repeat (go_big_quiet_step (first | (go_at_call 45; exact Calls.regrown_of ((HL.out _ _).mono fun _ _ hh => ⟨by have h0 := hh.1; simp only [cond_true, cond_false] at h0; exact h0, hh.2.below⟩))))
        refine wpQuiet_nil ?_
        intro _ hw'
        obtain ⟨⟨dq, osq⟩, hw''⟩ := hw'
        subst hw''
        have V3 := Lib.hid (V.out.then0 (Upd.regrown w2 dq osq))
        clear r0 r1 r2 r3 r4 r5 r6 r7 r8 c0 c1 c2 c3 c4 c5 c6 c7 c8
        generalize grow (redrawn w2 dq) osq = w3 at V3 ⊢
        obtain ⟨c0, c1, c2, c3, c4, c5, c6, c7, c8⟩ := HS.out _ V3.out
        have d0 := (HS.out _ (V3.out.alloc (.cells #[.int .i64 p, .int .i64 (h / 2)] 2))).1
        go_wp2_with fail
        go_ret2
        rw [HE.out]
        refine ⟨_, _, rfl, rows2 (Nat.le_trans HB.out V3.out.size) p (h / 2) p2 (h / 2), HN.out.symm, ?_⟩
        exact U.out.then0 (((V3.out.alloc _).alloc _).alloc _)
      · have m1 : min p p2 = p2 := by omega
        have m2 : max p p2 = p := by omega
        have m3 : p2 < p := by omega
        have HN : Hid (cntL h l r lo ro rh d o k = [[p2, h / 2], [p, h / 2]]) := by show _ = _; rw [hm0.out, m1, m2]
        clear hm0
        go_enter Try.func24, Try.ntmps24
        go_wp2_with fail
        try rw [hw1]
        clear hw1 hX
        refine (sIsWheel_c _ _ _ _ _ _ _ _ _ _).mono ?_
        rintro e w2 ⟨rfl, hu⟩
        have V := Lib.hid hu
        rw [q]
        clear hu c0 c1 c2 c3 c4 c5 c6 c7 c8
        obtain ⟨c0, c1, c2, c3, c4, c5, c6, c7, c8⟩ := HS.out _ V.out
        clear q
        go_wp2_with fail
        have r0 := cell_regrown c0
        have r1 := cell_regrown c1
        have r2 := cell_regrown c2
        have r3 := cell_regrown c3
        have r4 := cell_regrown c4
        have r5 := cell_regrown c5
        have r6 := cell_regrown c6
        have r7 := cell_regrown c7
        have r8 := cell_regrown c8
        refine wp_region_quiet_below (by kernel_rfl) (by kernel_rfl) ?_
        repeat (go_big_quiet_step (first | (go_at_call 45; exact Calls.regrown_of ((HL.out _ _).mono fun _ _ hh => ⟨by have h0 := hh.1; simp only [cond_true, cond_false] at h0; exact h0, hh.2.below⟩))))
        refine wpQuiet_nil ?_
        intro _ hw'
        obtain ⟨⟨dq, osq⟩, hw''⟩ := hw'
        subst hw''
        have V3 := Lib.hid (V.out.then0 (Upd.regrown w2 dq osq))
        clear r0 r1 r2 r3 r4 r5 r6 r7 r8 c0 c1 c2 c3 c4 c5 c6 c7 c8
        generalize grow (redrawn w2 dq) osq = w3 at V3 ⊢
        obtain ⟨c0, c1, c2, c3, c4, c5, c6, c7, c8⟩ := HS.out _ V3.out
        have d0 := (HS.out _ (V3.out.alloc (.cells #[.int .i64 p2, .int .i64 (h / 2)] 2))).1
        go_wp2_with fail
        go_ret2
        rw [HE.out]
        refine ⟨_, _, rfl, rows2 (Nat.le_trans HB.out V3.out.size) p2 (h / 2) p (h / 2), HN.out.symm, ?_⟩
        exact U.out.then0 (((V3.out.alloc _).alloc _).alloc _)
end Go.Proofs.Ytbjeaadnanimfaa
