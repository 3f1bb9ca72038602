/- Chapter 5: SquareOfSpoke, SpokeLength. -/
import Derived.Test.YtbjeaadnanimfaaSpoke
namespace Go.Proofs.Ytbjeaadnanimfaa
open Go.RowKit Go.Sort
set_option linter.unusedVariables false
set_option linter.unusedSimpArgs false

def whE (h l r lo ro rh d o k : Int) : Int := if whB h l r lo ro rh d o k then 0 else 1
def sqR (h l r lo ro rh d o k : Int) (b : Bool) : Int := if whB h l r lo ro rh d o k then sqV h l r lo ro rh d o k b else 0
def lenR (h l r lo ro rh d o k : Int) (b : Bool) : Int := if whB h l r lo ro rh d o k then lenV h l r lo ro rh d o k b else 0
set_option maxRecDepth 20000 in
set_option maxHeartbeats 3200000 in
theorem iSquareOfSpoke_c (h l r lo ro rh d o k : Int) (b : Bool) (w : World) : Calls Try.prog 21 #[.agg #[.int .i64 h, .int .i64 l, .int .i64 r, .int .i64 lo, .int .i64 ro, .int .i64 rh, .int .i64 d, .int .i64 o, .int .i64 k], .bool b] w fun e w' => e = .returned (.tuple #[.int .i64 (sqR h l r lo ro rh d o k b), .int .i64 (whE h l r lo ro rh d o k)]) ∧ Upd [] w w' := by
  have HS0 : Hid (∀ w', Upd [] (w.alloc (.cells #[.int .i64 h, .int .i64 l, .int .i64 r, .int .i64 lo, .int .i64 ro, .int .i64 rh, .int .i64 d, .int .i64 o, .int .i64 k] 34)) w' → w'.cell? ⟨w.heap.size, 0, none⟩ = some (.int .i64 h) ∧ w'.cell? ⟨w.heap.size, 1, none⟩ = some (.int .i64 l) ∧ w'.cell? ⟨w.heap.size, 2, none⟩ = some (.int .i64 r) ∧ w'.cell? ⟨w.heap.size, 3, none⟩ = some (.int .i64 lo) ∧ w'.cell? ⟨w.heap.size, 4, none⟩ = some (.int .i64 ro) ∧ w'.cell? ⟨w.heap.size, 5, none⟩ = some (.int .i64 rh) ∧ w'.cell? ⟨w.heap.size, 6, none⟩ = some (.int .i64 d) ∧ w'.cell? ⟨w.heap.size, 7, none⟩ = some (.int .i64 o) ∧ w'.cell? ⟨w.heap.size, 8, none⟩ = some (.int .i64 k)) := fun w' u => ((Blk.new w [h, l, r, lo, ro, rh, d, o, k] 34).kept0 u).whC
  have U : Hid (Upd [] w (w.alloc (.cells #[.int .i64 h, .int .i64 l, .int .i64 r, .int .i64 lo, .int .i64 ro, .int .i64 rh, .int .i64 d, .int .i64 o, .int .i64 k] 34))) := (Upd.refl w).alloc _
  obtain ⟨X, hX⟩ : ∃ X, w.heap.size = X := ⟨_, rfl⟩
  obtain ⟨w1, hw1⟩ : ∃ W, w.alloc (.cells #[.int .i64 h, .int .i64 l, .int .i64 r, .int .i64 lo, .int .i64 ro, .int .i64 rh, .int .i64 d, .int .i64 o, .int .i64 k] 34) = W := ⟨_, rfl⟩
  have HS : Hid (∀ w', Upd [] w1 w' → w'.cell? ⟨X, 0, none⟩ = some (.int .i64 h) ∧ w'.cell? ⟨X, 1, none⟩ = some (.int .i64 l) ∧ w'.cell? ⟨X, 2, none⟩ = some (.int .i64 r) ∧ w'.cell? ⟨X, 3, none⟩ = some (.int .i64 lo) ∧ w'.cell? ⟨X, 4, none⟩ = some (.int .i64 ro) ∧ w'.cell? ⟨X, 5, none⟩ = some (.int .i64 rh) ∧ w'.cell? ⟨X, 6, none⟩ = some (.int .i64 d) ∧ w'.cell? ⟨X, 7, none⟩ = some (.int .i64 o) ∧ w'.cell? ⟨X, 8, none⟩ = some (.int .i64 k)) := by rw [← hw1, ← hX]; exact HS0
  rw [hw1] at U
  obtain ⟨c0, c1, c2, c3, c4, c5, c6, c7, c8⟩ := HS.out w1 (Upd.refl _)
  clear HS0
  cases q : whB h l r lo ro rh d o k
  · have HV : Hid (sqR h l r lo ro rh d o k b = 0 ∧ whE h l r lo ro rh d o k = 1) := by constructor <;> simp [sqR, whE, q]
    go_enter Try.func21, Try.ntmps21
    go_wp2_with fail
    try rw [hw1]
    clear hw1 hX
    refine (iIsWheel_c _ _ _ _ _ _ _ _ _ _).mono ?_
    rintro e w2 ⟨rfl, hu⟩
    have V := Lib.hid hu
    rw [q]
    clear hu c0 c1 c2 c3 c4 c5 c6 c7 c8
    obtain ⟨c0, c1, c2, c3, c4, c5, c6, c7, c8⟩ := HS.out _ V.out
    go_wp2_with fail
    go_ret2
    exact ⟨ret_int2 HV.out.1.symm HV.out.2.symm, U.out.then0 V.out⟩
  · have HV : Hid (sqR h l r lo ro rh d o k b = sqV h l r lo ro rh d o k b ∧ whE h l r lo ro rh d o k = 0) := by constructor <;> simp [sqR, whE, q]
    have HQ := Lib.hid q
    go_enter Try.func21, Try.ntmps21
    go_wp2_with fail
    try rw [hw1]
    clear hw1 hX
    refine (iIsWheel_c _ _ _ _ _ _ _ _ _ _).mono ?_
    rintro e w2 ⟨rfl, hu⟩
    have V := Lib.hid hu
    rw [q]
    clear hu c0 c1 c2 c3 c4 c5 c6 c7 c8
    obtain ⟨c0, c1, c2, c3, c4, c5, c6, c7, c8⟩ := HS.out _ V.out
    clear q
    go_wp2_with fail
    refine (iSq_c _ _ _ _ _ _ _ _ _ _ _ HQ.out).mono ?_
    rintro e w3 ⟨rfl, hu⟩
    have V3 := Lib.hid (V.out.then0 hu)
    clear hu
    go_wp2_with fail
    go_ret2
    exact ⟨ret_int2 HV.out.1.symm HV.out.2.symm, U.out.then0 V3.out⟩
set_option maxRecDepth 20000 in
set_option maxHeartbeats 3200000 in
theorem sSquareOfSpoke_c (h l r lo ro rh d o k : Int) (b : Bool) (w : World) : Calls Try.prog 22 #[.agg #[.int .i64 h, .int .i64 l, .int .i64 r, .int .i64 lo, .int .i64 ro, .int .i64 rh, .int .i64 d, .int .i64 o, .int .i64 k], .bool b] w fun e w' => e = .returned (.tuple #[.int .i64 (sqR h l r lo ro rh d o k b), .int .i64 (whE h l r lo ro rh d o k)]) ∧ Upd [] w w' := by
  have HS0 : Hid (∀ w', Upd [] (w.alloc (.cells #[.int .i64 h, .int .i64 l, .int .i64 r, .int .i64 lo, .int .i64 ro, .int .i64 rh, .int .i64 d, .int .i64 o, .int .i64 k] 34)) w' → w'.cell? ⟨w.heap.size, 0, none⟩ = some (.int .i64 h) ∧ w'.cell? ⟨w.heap.size, 1, none⟩ = some (.int .i64 l) ∧ w'.cell? ⟨w.heap.size, 2, none⟩ = some (.int .i64 r) ∧ w'.cell? ⟨w.heap.size, 3, none⟩ = some (.int .i64 lo) ∧ w'.cell? ⟨w.heap.size, 4, none⟩ = some (.int .i64 ro) ∧ w'.cell? ⟨w.heap.size, 5, none⟩ = some (.int .i64 rh) ∧ w'.cell? ⟨w.heap.size, 6, none⟩ = some (.int .i64 d) ∧ w'.cell? ⟨w.heap.size, 7, none⟩ = some (.int .i64 o) ∧ w'.cell? ⟨w.heap.size, 8, none⟩ = some (.int .i64 k)) := fun w' u => ((Blk.new w [h, l, r, lo, ro, rh, d, o, k] 34).kept0 u).whC
  have U : Hid (Upd [] w (w.alloc (.cells #[.int .i64 h, .int .i64 l, .int .i64 r, .int .i64 lo, .int .i64 ro, .int .i64 rh, .int .i64 d, .int .i64 o, .int .i64 k] 34))) := (Upd.refl w).alloc _
  obtain ⟨X, hX⟩ : ∃ X, w.heap.size = X := ⟨_, rfl⟩
  obtain ⟨w1, hw1⟩ : ∃ W, w.alloc (.cells #[.int .i64 h, .int .i64 l, .int .i64 r, .int .i64 lo, .int .i64 ro, .int .i64 rh, .int .i64 d, .int .i64 o, .int .i64 k] 34) = W := ⟨_, rfl⟩
  have HS : Hid (∀ w', Upd [] w1 w' → w'.cell? ⟨X, 0, none⟩ = some (.int .i64 h) ∧ w'.cell? ⟨X, 1, none⟩ = some (.int .i64 l) ∧ w'.cell? ⟨X, 2, none⟩ = some (.int .i64 r) ∧ w'.cell? ⟨X, 3, none⟩ = some (.int .i64 lo) ∧ w'.cell? ⟨X, 4, none⟩ = some (.int .i64 ro) ∧ w'.cell? ⟨X, 5, none⟩ = some (.int .i64 rh) ∧ w'.cell? ⟨X, 6, none⟩ = some (.int .i64 d) ∧ w'.cell? ⟨X, 7, none⟩ = some (.int .i64 o) ∧ w'.cell? ⟨X, 8, none⟩ = some (.int .i64 k)) := by rw [← hw1, ← hX]; exact HS0
  rw [hw1] at U
  obtain ⟨c0, c1, c2, c3, c4, c5, c6, c7, c8⟩ := HS.out w1 (Upd.refl _)
  clear HS0
  cases q : whB h l r lo ro rh d o k
  · have HV : Hid (sqR h l r lo ro rh d o k b = 0 ∧ whE h l r lo ro rh d o k = 1) := by constructor <;> simp [sqR, whE, q]
    go_enter Try.func22, Try.ntmps22
    go_wp2_with fail
    try rw [hw1]
    clear hw1 hX
    refine (sIsWheel_c _ _ _ _ _ _ _ _ _ _).mono ?_
    rintro e w2 ⟨rfl, hu⟩
    have V := Lib.hid hu
    rw [q]
    clear hu c0 c1 c2 c3 c4 c5 c6 c7 c8
    obtain ⟨c0, c1, c2, c3, c4, c5, c6, c7, c8⟩ := HS.out _ V.out
    go_wp2_with fail
    go_ret2
    exact ⟨ret_int2 HV.out.1.symm HV.out.2.symm, U.out.then0 V.out⟩
  · have HV : Hid (sqR h l r lo ro rh d o k b = sqV h l r lo ro rh d o k b ∧ whE h l r lo ro rh d o k = 0) := by constructor <;> simp [sqR, whE, q]
    have HQ := Lib.hid q
    go_enter Try.func22, Try.ntmps22
    go_wp2_with fail
    try rw [hw1]
    clear hw1 hX
    refine (sIsWheel_c _ _ _ _ _ _ _ _ _ _).mono ?_
    rintro e w2 ⟨rfl, hu⟩
    have V := Lib.hid hu
    rw [q]
    clear hu c0 c1 c2 c3 c4 c5 c6 c7 c8
    obtain ⟨c0, c1, c2, c3, c4, c5, c6, c7, c8⟩ := HS.out _ V.out
    clear q
    go_wp2_with fail
    refine (sSq_c _ _ _ _ _ _ _ _ _ _ _ HQ.out).mono ?_
    rintro e w3 ⟨rfl, hu⟩
    have V3 := Lib.hid (V.out.then0 hu)
    clear hu
    go_wp2_with fail
    go_ret2
    exact ⟨ret_int2 HV.out.1.symm HV.out.2.symm, U.out.then0 V3.out⟩
set_option maxRecDepth 20000 in
set_option maxHeartbeats 3200000 in
theorem iSpokeLength_c (h l r lo ro rh d o k : Int) (b : Bool) (w : World) : Calls Try.prog 16 #[.agg #[.int .i64 h, .int .i64 l, .int .i64 r, .int .i64 lo, .int .i64 ro, .int .i64 rh, .int .i64 d, .int .i64 o, .int .i64 k], .bool b] w fun e w' => e = .returned (.tuple #[.int .i64 (lenR h l r lo ro rh d o k b), .int .i64 (whE h l r lo ro rh d o k)]) ∧ Upd [] w w' := by
  have HS0 : Hid (∀ w', Upd [] (w.alloc (.cells #[.int .i64 h, .int .i64 l, .int .i64 r, .int .i64 lo, .int .i64 ro, .int .i64 rh, .int .i64 d, .int .i64 o, .int .i64 k] 34)) w' → w'.cell? ⟨w.heap.size, 0, none⟩ = some (.int .i64 h) ∧ w'.cell? ⟨w.heap.size, 1, none⟩ = some (.int .i64 l) ∧ w'.cell? ⟨w.heap.size, 2, none⟩ = some (.int .i64 r) ∧ w'.cell? ⟨w.heap.size, 3, none⟩ = some (.int .i64 lo) ∧ w'.cell? ⟨w.heap.size, 4, none⟩ = some (.int .i64 ro) ∧ w'.cell? ⟨w.heap.size, 5, none⟩ = some (.int .i64 rh) ∧ w'.cell? ⟨w.heap.size, 6, none⟩ = some (.int .i64 d) ∧ w'.cell? ⟨w.heap.size, 7, none⟩ = some (.int .i64 o) ∧ w'.cell? ⟨w.heap.size, 8, none⟩ = some (.int .i64 k)) := fun w' u => ((Blk.new w [h, l, r, lo, ro, rh, d, o, k] 34).kept0 u).whC
  have U : Hid (Upd [] w (w.alloc (.cells #[.int .i64 h, .int .i64 l, .int .i64 r, .int .i64 lo, .int .i64 ro, .int .i64 rh, .int .i64 d, .int .i64 o, .int .i64 k] 34))) := (Upd.refl w).alloc _
  obtain ⟨X, hX⟩ : ∃ X, w.heap.size = X := ⟨_, rfl⟩
  obtain ⟨w1, hw1⟩ : ∃ W, w.alloc (.cells #[.int .i64 h, .int .i64 l, .int .i64 r, .int .i64 lo, .int .i64 ro, .int .i64 rh, .int .i64 d, .int .i64 o, .int .i64 k] 34) = W := ⟨_, rfl⟩
  have HS : Hid (∀ w', Upd [] w1 w' → w'.cell? ⟨X, 0, none⟩ = some (.int .i64 h) ∧ w'.cell? ⟨X, 1, none⟩ = some (.int .i64 l) ∧ w'.cell? ⟨X, 2, none⟩ = some (.int .i64 r) ∧ w'.cell? ⟨X, 3, none⟩ = some (.int .i64 lo) ∧ w'.cell? ⟨X, 4, none⟩ = some (.int .i64 ro) ∧ w'.cell? ⟨X, 5, none⟩ = some (.int .i64 rh) ∧ w'.cell? ⟨X, 6, none⟩ = some (.int .i64 d) ∧ w'.cell? ⟨X, 7, none⟩ = some (.int .i64 o) ∧ w'.cell? ⟨X, 8, none⟩ = some (.int .i64 k)) := by rw [← hw1, ← hX]; exact HS0
  rw [hw1] at U
  obtain ⟨c0, c1, c2, c3, c4, c5, c6, c7, c8⟩ := HS.out w1 (Upd.refl _)
  clear HS0
  cases q : whB h l r lo ro rh d o k
  · have HV : Hid (lenR h l r lo ro rh d o k b = 0 ∧ whE h l r lo ro rh d o k = 1) := by constructor <;> simp [lenR, whE, q]
    go_enter Try.func16, Try.ntmps16
    go_wp2_with fail
    try rw [hw1]
    clear hw1 hX
    refine (iIsWheel_c _ _ _ _ _ _ _ _ _ _).mono ?_
    rintro e w2 ⟨rfl, hu⟩
    have V := Lib.hid hu
    rw [q]
    clear hu c0 c1 c2 c3 c4 c5 c6 c7 c8
    obtain ⟨c0, c1, c2, c3, c4, c5, c6, c7, c8⟩ := HS.out _ V.out
    go_wp2_with fail
    go_ret2
    exact ⟨ret_int2 HV.out.1.symm HV.out.2.symm, U.out.then0 V.out⟩
  · have HV : Hid (lenR h l r lo ro rh d o k b = lenV h l r lo ro rh d o k b ∧ whE h l r lo ro rh d o k = 0) := by constructor <;> simp [lenR, whE, q]
    have HQ := Lib.hid q
    go_enter Try.func16, Try.ntmps16
    go_wp2_with fail
    try rw [hw1]
    clear hw1 hX
    refine (iIsWheel_c _ _ _ _ _ _ _ _ _ _).mono ?_
    rintro e w2 ⟨rfl, hu⟩
    have V := Lib.hid hu
    rw [q]
    clear hu c0 c1 c2 c3 c4 c5 c6 c7 c8
    obtain ⟨c0, c1, c2, c3, c4, c5, c6, c7, c8⟩ := HS.out _ V.out
    clear q
    go_wp2_with fail
    refine (iLen_c _ _ _ _ _ _ _ _ _ _ _ HQ.out).mono ?_
    rintro e w3 ⟨rfl, hu⟩
    have V3 := Lib.hid (V.out.then0 hu)
    clear hu
    go_wp2_with fail
    go_ret2
    exact ⟨ret_int2 HV.out.1.symm HV.out.2.symm, U.out.then0 V3.out⟩
set_option maxRecDepth 20000 in
set_option maxHeartbeats 3200000 in
theorem sSpokeLength_c (h l r lo ro rh d o k : Int) (b : Bool) (w : World) : Calls Try.prog 20 #[.agg #[.int .i64 h, .int .i64 l, .int .i64 r, .int .i64 lo, .int .i64 ro, .int .i64 rh, .int .i64 d, .int .i64 o, .int .i64 k], .bool b] w fun e w' => e = .returned (.tuple #[.int .i64 (lenR h l r lo ro rh d o k b), .int .i64 (whE h l r lo ro rh d o k)]) ∧ Upd [] w w' := by
  have HS0 : Hid (∀ w', Upd [] (w.alloc (.cells #[.int .i64 h, .int .i64 l, .int .i64 r, .int .i64 lo, .int .i64 ro, .int .i64 rh, .int .i64 d, .int .i64 o, .int .i64 k] 34)) w' → w'.cell? ⟨w.heap.size, 0, none⟩ = some (.int .i64 h) ∧ w'.cell? ⟨w.heap.size, 1, none⟩ = some (.int .i64 l) ∧ w'.cell? ⟨w.heap.size, 2, none⟩ = some (.int .i64 r) ∧ w'.cell? ⟨w.heap.size, 3, none⟩ = some (.int .i64 lo) ∧ w'.cell? ⟨w.heap.size, 4, none⟩ = some (.int .i64 ro) ∧ w'.cell? ⟨w.heap.size, 5, none⟩ = some (.int .i64 rh) ∧ w'.cell? ⟨w.heap.size, 6, none⟩ = some (.int .i64 d) ∧ w'.cell? ⟨w.heap.size, 7, none⟩ = some (.int .i64 o) ∧ w'.cell? ⟨w.heap.size, 8, none⟩ = some (.int .i64 k)) := fun w' u => ((Blk.new w [h, l, r, lo, ro, rh, d, o, k] 34).kept0 u).whC
  have U : Hid (Upd [] w (w.alloc (.cells #[.int .i64 h, .int .i64 l, .int .i64 r, .int .i64 lo, .int .i64 ro, .int .i64 rh, .int .i64 d, .int .i64 o, .int .i64 k] 34))) := (Upd.refl w).alloc _
  obtain ⟨X, hX⟩ : ∃ X, w.heap.size = X := ⟨_, rfl⟩
  obtain ⟨w1, hw1⟩ : ∃ W, w.alloc (.cells #[.int .i64 h, .int .i64 l, .int .i64 r, .int .i64 lo, .int .i64 ro, .int .i64 rh, .int .i64 d, .int .i64 o, .int .i64 k] 34) = W := ⟨_, rfl⟩
  have HS : Hid (∀ w', Upd [] w1 w' → w'.cell? ⟨X, 0, none⟩ = some (.int .i64 h) ∧ w'.cell? ⟨X, 1, none⟩ = some (.int .i64 l) ∧ w'.cell? ⟨X, 2, none⟩ = some (.int .i64 r) ∧ w'.cell? ⟨X, 3, none⟩ = some (.int .i64 lo) ∧ w'.cell? ⟨X, 4, none⟩ = some (.int .i64 ro) ∧ w'.cell? ⟨X, 5, none⟩ = some (.int .i64 rh) ∧ w'.cell? ⟨X, 6, none⟩ = some (.int .i64 d) ∧ w'.cell? ⟨X, 7, none⟩ = some (.int .i64 o) ∧ w'.cell? ⟨X, 8, none⟩ = some (.int .i64 k)) := by rw [← hw1, ← hX]; exact HS0
  rw [hw1] at U
  obtain ⟨c0, c1, c2, c3, c4, c5, c6, c7, c8⟩ := HS.out w1 (Upd.refl _)
  clear HS0
  cases q : whB h l r lo ro rh d o k
  · have HV : Hid (lenR h l r lo ro rh d o k b = 0 ∧ whE h l r lo ro rh d o k = 1) := by constructor <;> simp [lenR, whE, q]
    go_enter Try.func20, Try.ntmps20
    go_wp2_with fail
    try rw [hw1]
    clear hw1 hX
    refine (sIsWheel_c _ _ _ _ _ _ _ _ _ _).mono ?_
    rintro e w2 ⟨rfl, hu⟩
    have V := Lib.hid hu
    rw [q]
    clear hu c0 c1 c2 c3 c4 c5 c6 c7 c8
    obtain ⟨c0, c1, c2, c3, c4, c5, c6, c7, c8⟩ := HS.out _ V.out
    go_wp2_with fail
    go_ret2
    exact ⟨ret_int2 HV.out.1.symm HV.out.2.symm, U.out.then0 V.out⟩
  · have HV : Hid (lenR h l r lo ro rh d o k b = lenV h l r lo ro rh d o k b ∧ whE h l r lo ro rh d o k = 0) := by constructor <;> simp [lenR, whE, q]
    have HQ := Lib.hid q
    go_enter Try.func20, Try.ntmps20
    go_wp2_with fail
    try rw [hw1]
    clear hw1 hX
    refine (sIsWheel_c _ _ _ _ _ _ _ _ _ _).mono ?_
    rintro e w2 ⟨rfl, hu⟩
    have V := Lib.hid hu
    rw [q]
    clear hu c0 c1 c2 c3 c4 c5 c6 c7 c8
    obtain ⟨c0, c1, c2, c3, c4, c5, c6, c7, c8⟩ := HS.out _ V.out
    clear q
    go_wp2_with fail
    refine (sLen_c _ _ _ _ _ _ _ _ _ _ _ HQ.out).mono ?_
    rintro e w3 ⟨rfl, hu⟩
    have V3 := Lib.hid (V.out.then0 hu)
    clear hu
    go_wp2_with fail
    go_ret2
    exact ⟨ret_int2 HV.out.1.symm HV.out.2.symm, U.out.then0 V3.out⟩
end Go.Proofs.Ytbjeaadnanimfaa
