/- Chapter 4: hubs, rims and wheels. -/
import Derived.Test.YtbjeaadnanimfaaHas
import Derived.Test.YtbjeaadnanimfaaBox
import Derived.Deep.RegionHeld3
namespace Go.Proofs.Ytbjeaadnanimfaa
open Go.RowKit
set_option linter.unusedVariables false
set_option linter.unusedSimpArgs false

/-- A block of numbers. -/
def Blk (w : World) (g : Nat) (xs : List Int) (t : TypeId) : Prop := w.heap[g]? = some (.cells (xs.map (Value.int .i64)).toArray t)
theorem Blk.kept {gs : List Nat} {w w' : World} {g : Nat} {xs : List Int} {t : TypeId} (h : Blk w g xs t) (u : Upd gs w w') (hg : g ∉ gs) : Blk w' g xs t := by
  unfold Blk at *
  have := (Array.getElem?_eq_some_iff.1 h).1
  rw [u.block g this hg]; exact h
theorem Blk.kept0 {w w' : World} {g : Nat} {xs : List Int} {t : TypeId} (h : Blk w g xs t) (u : Upd [] w w') : Blk w' g xs t := h.kept u (by simp)
theorem Blk.cell {w : World} {g : Nat} {xs : List Int} {t : TypeId} (h : Blk w g xs t) {k : Nat} {x : Int} (hk : xs[k]? = some x) : w.cell? ⟨g, k, none⟩ = some (.int .i64 x) := by
  have := Joins.cell_of_block h k
  rw [this]; simp [hk]
theorem Blk.free {w : World} {g : Nat} {xs : List Int} {t : TypeId} (h : Blk w g xs t) (i : Nat) : w.frozen? ⟨g, i, none⟩ = false := Joins.unfrozen_of_block h i
theorem Blk.new (w : World) (xs : List Int) (t : TypeId) : Blk (w.alloc (.cells (xs.map (Value.int .i64)).toArray t)) w.heap.size xs t := by show (w.heap.push _)[w.heap.size]? = _; exact Array.getElem?_push_size
theorem Blk.lt {w : World} {g : Nat} {xs : List Int} {t : TypeId} (h : Blk w g xs t) : g < w.heap.size := (Array.getElem?_eq_some_iff.1 h).1
theorem Blk.set {w : World} {g : Nat} {xs : List Int} {t : TypeId} (h : Blk w g xs t) (k : Nat) (x : Int) : Blk (w.setCell ⟨g, k, none⟩ (.int .i64 x)) g (xs.set k x) t := by
  have := Joins.block_setCell (i := k) h (.int .i64 x)
  unfold Blk; rw [this]; simp [List.map_set]
/-- The cells of a wheel. -/
def WhC (w : World) (g : Nat) (h l r lo ro rh d o k : Int) : Prop :=
  w.cell? ⟨g, 0, none⟩ = some (.int .i64 h) ∧ w.cell? ⟨g, 1, none⟩ = some (.int .i64 l) ∧ w.cell? ⟨g, 2, none⟩ = some (.int .i64 r) ∧ w.cell? ⟨g, 3, none⟩ = some (.int .i64 lo) ∧ w.cell? ⟨g, 4, none⟩ = some (.int .i64 ro) ∧ w.cell? ⟨g, 5, none⟩ = some (.int .i64 rh) ∧ w.cell? ⟨g, 6, none⟩ = some (.int .i64 d) ∧ w.cell? ⟨g, 7, none⟩ = some (.int .i64 o) ∧ w.cell? ⟨g, 8, none⟩ = some (.int .i64 k)
theorem Blk.whC {w : World} {g : Nat} {t : TypeId} {h l r lo ro rh d o k : Int} (b : Blk w g [h, l, r, lo, ro, rh, d, o, k] t) : WhC w g h l r lo ro rh d o k :=
  ⟨b.cell rfl, b.cell rfl, b.cell rfl, b.cell rfl, b.cell rfl, b.cell rfl, b.cell rfl, b.cell rfl, b.cell rfl⟩

def hubB (h l r lo ro : Int) : Bool := holesB h && (inB l 200 1200 && (inB r 200 1200 && (inB lo 0 500 && inB ro 0 500)))
def rimB (rh d o : Int) : Bool := holesB rh && (inB d 2000 7000 && inB o (-100) 100)
def whB (h l r lo ro rh d o k : Int) : Bool := hubB h l r lo ro && (rimB rh d o && (decide (h = rh) && inB k 0 (h / 4 - 1)))
theorem holesB_t {h : Int} (e : holesB h = true) : h = 12 ∨ h = 16 ∨ h = 20 ∨ h = 24 ∨ h = 32 ∨ h = 36 ∨ h = 40 ∨ h = 48 := by
  have := of_decide_eq_true e
  simpa using this
theorem isHoles_c (n : Int) (w : World) : Calls Try.prog 76 #[.int .i64 n] w fun e w' => e = .returned (.bool (holesB n)) ∧ w = w' := by
  cases q : holesB n
  · have hn : ¬ (n = 12 ∨ n = 16 ∨ n = 20 ∨ n = 24 ∨ n = 32 ∨ n = 36 ∨ n = 40 ∨ n = 48) := by
      have := of_decide_eq_false q; simpa using this
    have n1 : ¬ n = 12 := by omega
    have n2 : ¬ n = 16 := by omega
    have n3 : ¬ n = 20 := by omega
    have n4 : ¬ n = 24 := by omega
    have n5 : ¬ n = 32 := by omega
    have n6 : ¬ n = 36 := by omega
    have n7 : ¬ n = 40 := by omega
    have n8 : ¬ n = 48 := by omega
    clear hn q
    go_enter Try.func76, Try.ntmps76
    go_wp2
    go_ret
    exact ⟨rfl, rfl⟩
  · have hq := holesB_t q
    clear q
    rcases hq with rfl | rfl | rfl | rfl | rfl | rfl | rfl | rfl
    all_goals
      go_enter Try.func76, Try.ntmps76
      go_wp2
      go_ret
      exact ⟨rfl, rfl⟩
theorem isDiameter_c (n : Int) (w : World) : Calls Try.prog 49 #[.int .i64 n] w fun e w' => e = .returned (.bool (inB n 2000 7000)) ∧ w = w' := by
  go_enter Try.func49, Try.ntmps49
  go_wp2_with (go_at_call 38; refine (within_c _ _ _ _).mono ?_; rintro e w' ⟨rfl, rfl⟩)
  go_ret
  exact ⟨rfl, rfl⟩
set_option maxRecDepth 20000 in
set_option maxHeartbeats 1600000 in
theorem iIsHub_c (h l r lo ro : Int) (w : World) : Calls Try.prog 66 #[.agg #[.int .i64 h, .int .i64 l, .int .i64 r, .int .i64 lo, .int .i64 ro]] w fun e w' => e = .returned (.bool (hubB h l r lo ro)) ∧ Upd [] w w' := by
  have UB : Hid (Upd [] w (w.alloc (.cells #[.int .i64 h, .int .i64 l, .int .i64 r, .int .i64 lo, .int .i64 ro] 30))) := (Upd.refl w).alloc _
  cases q1 : holesB h
  · have HN : Hid (hubB h l r lo ro = false) := by show _ = _; simp [hubB, q1]
    go_enter Try.func66, Try.ntmps66
    go_wp2_with (first | (go_at_call 76; refine (isHoles_c _ _).mono ?_; rintro e w' ⟨rfl, rfl⟩) | (go_at_call 38; refine (within_c _ _ _ _).mono ?_; rintro e w' ⟨rfl, rfl⟩))
    go_ret
    exact ⟨ret_bool HN.out.symm, UB.out⟩
  · skip
    cases q2 : inB l 200 1200
    · have HN : Hid (hubB h l r lo ro = false) := by show _ = _; simp [hubB, q1, q2]
      go_enter Try.func66, Try.ntmps66
      go_wp2_with (first | (go_at_call 76; refine (isHoles_c _ _).mono ?_; rintro e w' ⟨rfl, rfl⟩) | (go_at_call 38; refine (within_c _ _ _ _).mono ?_; rintro e w' ⟨rfl, rfl⟩))
      go_ret
      exact ⟨ret_bool HN.out.symm, UB.out⟩
    · skip
      cases q3 : inB r 200 1200
      · have HN : Hid (hubB h l r lo ro = false) := by show _ = _; simp [hubB, q1, q2, q3]
        go_enter Try.func66, Try.ntmps66
        go_wp2_with (first | (go_at_call 76; refine (isHoles_c _ _).mono ?_; rintro e w' ⟨rfl, rfl⟩) | (go_at_call 38; refine (within_c _ _ _ _).mono ?_; rintro e w' ⟨rfl, rfl⟩))
        go_ret
        exact ⟨ret_bool HN.out.symm, UB.out⟩
      · skip
        cases q4 : inB lo 0 500
        · have HN : Hid (hubB h l r lo ro = false) := by show _ = _; simp [hubB, q1, q2, q3, q4]
          go_enter Try.func66, Try.ntmps66
          go_wp2_with (first | (go_at_call 76; refine (isHoles_c _ _).mono ?_; rintro e w' ⟨rfl, rfl⟩) | (go_at_call 38; refine (within_c _ _ _ _).mono ?_; rintro e w' ⟨rfl, rfl⟩))
          go_ret
          exact ⟨ret_bool HN.out.symm, UB.out⟩
        · skip
          cases q5 : inB ro 0 500
          · have HN : Hid (hubB h l r lo ro = false) := by show _ = _; simp [hubB, q1, q2, q3, q4, q5]
            go_enter Try.func66, Try.ntmps66
            go_wp2_with (first | (go_at_call 76; refine (isHoles_c _ _).mono ?_; rintro e w' ⟨rfl, rfl⟩) | (go_at_call 38; refine (within_c _ _ _ _).mono ?_; rintro e w' ⟨rfl, rfl⟩))
            go_ret
            exact ⟨ret_bool HN.out.symm, UB.out⟩
          · have HN : Hid (hubB h l r lo ro = true) := by show _ = _; simp [hubB, q1, q2, q3, q4, q5]
            go_enter Try.func66, Try.ntmps66
            go_wp2_with (first | (go_at_call 76; refine (isHoles_c _ _).mono ?_; rintro e w' ⟨rfl, rfl⟩) | (go_at_call 38; refine (within_c _ _ _ _).mono ?_; rintro e w' ⟨rfl, rfl⟩))
            go_ret
            exact ⟨ret_bool HN.out.symm, UB.out⟩
set_option maxRecDepth 20000 in
set_option maxHeartbeats 1600000 in
theorem iIsRim_c (rh d o : Int) (w : World) : Calls Try.prog 67 #[.agg #[.int .i64 rh, .int .i64 d, .int .i64 o]] w fun e w' => e = .returned (.bool (rimB rh d o)) ∧ Upd [] w w' := by
  have UB : Hid (Upd [] w (w.alloc (.cells #[.int .i64 rh, .int .i64 d, .int .i64 o] 32))) := (Upd.refl w).alloc _
  cases q1 : holesB rh
  · have HN : Hid (rimB rh d o = false) := by show _ = _; simp [rimB, q1]
    go_enter Try.func67, Try.ntmps67
    go_wp2_with (first | (go_at_call 76; refine (isHoles_c _ _).mono ?_; rintro e w' ⟨rfl, rfl⟩) | (go_at_call 49; refine (isDiameter_c _ _).mono ?_; rintro e w' ⟨rfl, rfl⟩) | (go_at_call 38; refine (within_c _ _ _ _).mono ?_; rintro e w' ⟨rfl, rfl⟩))
    go_ret
    exact ⟨ret_bool HN.out.symm, UB.out⟩
  · skip
    cases q2 : inB d 2000 7000
    · have HN : Hid (rimB rh d o = false) := by show _ = _; simp [rimB, q1, q2]
      go_enter Try.func67, Try.ntmps67
      go_wp2_with (first | (go_at_call 76; refine (isHoles_c _ _).mono ?_; rintro e w' ⟨rfl, rfl⟩) | (go_at_call 49; refine (isDiameter_c _ _).mono ?_; rintro e w' ⟨rfl, rfl⟩) | (go_at_call 38; refine (within_c _ _ _ _).mono ?_; rintro e w' ⟨rfl, rfl⟩))
      go_ret
      exact ⟨ret_bool HN.out.symm, UB.out⟩
    · skip
      cases q3 : inB o (-100) 100
      · have HN : Hid (rimB rh d o = false) := by show _ = _; simp [rimB, q1, q2, q3]
        go_enter Try.func67, Try.ntmps67
        go_wp2_with (first | (go_at_call 76; refine (isHoles_c _ _).mono ?_; rintro e w' ⟨rfl, rfl⟩) | (go_at_call 49; refine (isDiameter_c _ _).mono ?_; rintro e w' ⟨rfl, rfl⟩) | (go_at_call 38; refine (within_c _ _ _ _).mono ?_; rintro e w' ⟨rfl, rfl⟩))
        go_ret
        exact ⟨ret_bool HN.out.symm, UB.out⟩
      · have HN : Hid (rimB rh d o = true) := by show _ = _; simp [rimB, q1, q2, q3]
        go_enter Try.func67, Try.ntmps67
        go_wp2_with (first | (go_at_call 76; refine (isHoles_c _ _).mono ?_; rintro e w' ⟨rfl, rfl⟩) | (go_at_call 49; refine (isDiameter_c _ _).mono ?_; rintro e w' ⟨rfl, rfl⟩) | (go_at_call 38; refine (within_c _ _ _ _).mono ?_; rintro e w' ⟨rfl, rfl⟩))
        go_ret
        exact ⟨ret_bool HN.out.symm, UB.out⟩
set_option maxRecDepth 20000 in
set_option maxHeartbeats 1600000 in
theorem sIsHub_c (h l r lo ro : Int) (w : World) : Calls Try.prog 63 #[.agg #[.int .i64 h, .int .i64 l, .int .i64 r, .int .i64 lo, .int .i64 ro]] w fun e w' => e = .returned (.bool (hubB h l r lo ro)) ∧ Upd [] w w' := by
  have HB : Hid (∀ w', Upd [] (w.alloc (.cells #[.int .i64 h, .int .i64 l, .int .i64 r, .int .i64 lo, .int .i64 ro] 30)) w' → w'.cell? ⟨w.heap.size, 0, none⟩ = some (.int .i64 h) ∧ w'.cell? ⟨w.heap.size, 1, none⟩ = some (.int .i64 l) ∧ w'.cell? ⟨w.heap.size, 2, none⟩ = some (.int .i64 r) ∧ w'.cell? ⟨w.heap.size, 3, none⟩ = some (.int .i64 lo) ∧ w'.cell? ⟨w.heap.size, 4, none⟩ = some (.int .i64 ro)) := fun w' u => by
    have b := (Blk.new w [h, l, r, lo, ro] 30).kept0 u
    exact ⟨b.cell rfl, b.cell rfl, b.cell rfl, b.cell rfl, b.cell rfl⟩
  have UB : Hid (Upd [] w (w.alloc (.cells #[.int .i64 h, .int .i64 l, .int .i64 r, .int .i64 lo, .int .i64 ro] 30))) := (Upd.refl w).alloc _
  go_enter Try.func63, Try.ntmps63
  go_wp2_with fail
  refine (l04Holes_c _ _).mono ?_
  rintro e w1 ⟨rfl, hu⟩
  obtain ⟨c0, c1, c2, c3, c4⟩ := HB.out _ hu
  have U1 := Lib.hid (UB.out.then0 hu)
  clear hu HB UB
  cases q1 : holesB h
  · have HN : Hid (hubB h l r lo ro = false) := by show _ = _; simp [hubB, q1]
    go_wp2_with (go_at_call 41; refine (l01In_c _ _ _ _).mono ?_; rintro e w' ⟨rfl, rfl⟩)
    go_ret
    exact ⟨ret_bool HN.out.symm, U1.out⟩
  · skip
    cases q2 : inB l 200 1200
    · have HN : Hid (hubB h l r lo ro = false) := by show _ = _; simp [hubB, q1, q2]
      go_wp2_with (go_at_call 41; refine (l01In_c _ _ _ _).mono ?_; rintro e w' ⟨rfl, rfl⟩)
      go_ret
      exact ⟨ret_bool HN.out.symm, U1.out⟩
    · skip
      cases q3 : inB r 200 1200
      · have HN : Hid (hubB h l r lo ro = false) := by show _ = _; simp [hubB, q1, q2, q3]
        go_wp2_with (go_at_call 41; refine (l01In_c _ _ _ _).mono ?_; rintro e w' ⟨rfl, rfl⟩)
        go_ret
        exact ⟨ret_bool HN.out.symm, U1.out⟩
      · skip
        cases q4 : inB lo 0 500
        · have HN : Hid (hubB h l r lo ro = false) := by show _ = _; simp [hubB, q1, q2, q3, q4]
          go_wp2_with (go_at_call 41; refine (l01In_c _ _ _ _).mono ?_; rintro e w' ⟨rfl, rfl⟩)
          go_ret
          exact ⟨ret_bool HN.out.symm, U1.out⟩
        · skip
          cases q5 : inB ro 0 500
          · have HN : Hid (hubB h l r lo ro = false) := by show _ = _; simp [hubB, q1, q2, q3, q4, q5]
            go_wp2_with (go_at_call 41; refine (l01In_c _ _ _ _).mono ?_; rintro e w' ⟨rfl, rfl⟩)
            go_ret
            exact ⟨ret_bool HN.out.symm, U1.out⟩
          · have HN : Hid (hubB h l r lo ro = true) := by show _ = _; simp [hubB, q1, q2, q3, q4, q5]
            go_wp2_with (go_at_call 41; refine (l01In_c _ _ _ _).mono ?_; rintro e w' ⟨rfl, rfl⟩)
            go_ret
            exact ⟨ret_bool HN.out.symm, U1.out⟩
set_option maxRecDepth 20000 in
set_option maxHeartbeats 1600000 in
theorem sIsRim_c (rh d o : Int) (w : World) : Calls Try.prog 64 #[.agg #[.int .i64 rh, .int .i64 d, .int .i64 o]] w fun e w' => e = .returned (.bool (rimB rh d o)) ∧ Upd [] w w' := by
  have HB : Hid (∀ w', Upd [] (w.alloc (.cells #[.int .i64 rh, .int .i64 d, .int .i64 o] 32)) w' → w'.cell? ⟨w.heap.size, 0, none⟩ = some (.int .i64 rh) ∧ w'.cell? ⟨w.heap.size, 1, none⟩ = some (.int .i64 d) ∧ w'.cell? ⟨w.heap.size, 2, none⟩ = some (.int .i64 o)) := fun w' u => by
    have b := (Blk.new w [rh, d, o] 32).kept0 u
    exact ⟨b.cell rfl, b.cell rfl, b.cell rfl⟩
  have UB : Hid (Upd [] w (w.alloc (.cells #[.int .i64 rh, .int .i64 d, .int .i64 o] 32))) := (Upd.refl w).alloc _
  go_enter Try.func64, Try.ntmps64
  go_wp2_with fail
  refine (l04Holes_c _ _).mono ?_
  rintro e w1 ⟨rfl, hu⟩
  obtain ⟨c0, c1, c2⟩ := HB.out _ hu
  have U1 := Lib.hid (UB.out.then0 hu)
  clear hu HB UB
  cases q1 : holesB rh
  · have HN : Hid (rimB rh d o = false) := by show _ = _; simp [rimB, q1]
    go_wp2_with (go_at_call 41; refine (l01In_c _ _ _ _).mono ?_; rintro e w' ⟨rfl, rfl⟩)
    go_ret
    exact ⟨ret_bool HN.out.symm, U1.out⟩
  · skip
    cases q2 : inB d 2000 7000
    · have HN : Hid (rimB rh d o = false) := by show _ = _; simp [rimB, q1, q2]
      go_wp2_with (go_at_call 41; refine (l01In_c _ _ _ _).mono ?_; rintro e w' ⟨rfl, rfl⟩)
      go_ret
      exact ⟨ret_bool HN.out.symm, U1.out⟩
    · skip
      cases q3 : inB o (-100) 100
      · have HN : Hid (rimB rh d o = false) := by show _ = _; simp [rimB, q1, q2, q3]
        go_wp2_with (go_at_call 41; refine (l01In_c _ _ _ _).mono ?_; rintro e w' ⟨rfl, rfl⟩)
        go_ret
        exact ⟨ret_bool HN.out.symm, U1.out⟩
      · have HN : Hid (rimB rh d o = true) := by show _ = _; simp [rimB, q1, q2, q3]
        go_wp2_with (go_at_call 41; refine (l01In_c _ _ _ _).mono ?_; rintro e w' ⟨rfl, rfl⟩)
        go_ret
        exact ⟨ret_bool HN.out.symm, U1.out⟩
end Go.Proofs.Ytbjeaadnanimfaa
