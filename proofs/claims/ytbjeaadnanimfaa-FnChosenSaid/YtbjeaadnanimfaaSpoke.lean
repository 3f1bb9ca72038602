/- Chapter 5: spokes: off, square, length. -/
import Derived.Test.YtbjeaadnanimfaaWheel2
import Derived.Test.YtbjeaadnanimfaaTable2
namespace Go.Proofs.Ytbjeaadnanimfaa
open Go.RowKit Go.Sort
set_option linter.unusedVariables false
set_option linter.unusedSimpArgs false

theorem whB_t {h l r lo ro rh d o k : Int} (e : whB h l r lo ro rh d o k = true) : (12 ≤ h ∧ h ≤ 48 ∧ h % 4 = 0) ∧ (200 ≤ l ∧ l ≤ 1200) ∧ (200 ≤ r ∧ r ≤ 1200) ∧ (0 ≤ lo ∧ lo ≤ 500) ∧ (0 ≤ ro ∧ ro ≤ 500) ∧ (2000 ≤ d ∧ d ≤ 7000) ∧ (-100 ≤ o ∧ o ≤ 100) ∧ (0 ≤ k ∧ k ≤ h / 4 - 1) := by
  simp only [whB, Bool.and_eq_true] at e
  obtain ⟨e1, e2, e3, e4⟩ := e
  obtain ⟨h1, h2, h3, h4, h5⟩ := hubB_t e1
  simp only [rimB, Bool.and_eq_true] at e2
  exact ⟨h1, h2, h3, h4, h5, inB_t e2.2.1, inB_t e2.2.2, inB_t e4⟩
/-- How far a flange is from the middle of the rim. -/
def offV (lo ro o : Int) (b : Bool) : Int := if b then ro - o else lo + o
def flV (l r : Int) (b : Bool) : Int := if b then r else l
/-- The square of a spoke. -/
def sqV (h l r lo ro rh d o k : Int) (b : Bool) : Int := sqB d (flV l r b) (1440 * k / h) + 4 * offV lo ro o b * offV lo ro o b
/-- The length of a spoke. -/
def lenV (h l r lo ro rh d o k : Int) (b : Bool) : Int := (rootF (sqV h l r lo ro rh d o k b) + 1) / 2 - 12
theorem sq_le {a b : Int} (ha : 0 ≤ a) (h : a ≤ b) : a * a ≤ b * b := Int.mul_le_mul h h ha (by omega)
theorem rootF_lo {n m : Int} (hn : 0 ≤ n) (hm : 0 ≤ m) (h : m * m ≤ n) : m ≤ rootF n := by
  obtain ⟨a, b, c⟩ := rootF_ok hn
  by_cases e : m ≤ rootF n
  · exact e
  · have := sq_le (a := rootF n + 1) (b := m) (by omega) (by omega); omega
theorem rootF_hi {n m : Int} (hn : 0 ≤ n) (hm : 0 ≤ m) (h : n < m * m) : rootF n < m := by
  obtain ⟨a, b, c⟩ := rootF_ok hn
  by_cases e : rootF n < m
  · exact e
  · have := sq_le (a := m) (b := rootF n) hm (by omega); omega
theorem step_bd {h k : Int} (hh : 12 ≤ h) (hk : 0 ≤ k ∧ k ≤ h / 4 - 1) : 0 ≤ 1440 * k / h ∧ 1440 * k / h < 360 := by
  refine ⟨Int.ediv_nonneg (by omega) (by omega), ?_⟩
  refine Int.ediv_lt_of_lt_mul (by omega) ?_
  omega
theorem offV_bd {lo ro o : Int} (b : Bool) (h4 : 0 ≤ lo ∧ lo ≤ 500) (h5 : 0 ≤ ro ∧ ro ≤ 500) (h7 : -100 ≤ o ∧ o ≤ 100) : -100 ≤ offV lo ro o b ∧ offV lo ro o b ≤ 600 := by
  cases b <;> simp only [offV] <;> constructor <;> simp <;> omega
theorem flV_bd {l r : Int} (b : Bool) (h2 : 200 ≤ l ∧ l ≤ 1200) (h3 : 200 ≤ r ∧ r ≤ 1200) : 200 ≤ flV l r b ∧ flV l r b ≤ 1200 := by
  cases b <;> simp only [flV] <;> simp <;> omega
theorem off_sq {x : Int} (h : -100 ≤ x ∧ x ≤ 600) : 0 ≤ 4 * x * x ∧ 4 * x * x ≤ 1440000 := by
  have e : 4 * x * x = 4 * (x * x) := Int.mul_assoc _ _ _
  rw [e]
  rcases Int.le_total 0 x with h0 | h0
  · have h1 := Int.mul_nonneg h0 h0
    have h2 : x * x ≤ 600 * 600 := sq_le h0 h.2
    omega
  · have h1 : 0 ≤ -x * -x := Int.mul_nonneg (by omega) (by omega)
    have h2 : -x * -x ≤ 100 * 100 := sq_le (by omega) (by omega)
    rw [Int.neg_mul_neg] at h1 h2
    omega
theorem sqB_in {a b s : Int} (ha : 2000 ≤ a ∧ a ≤ 7000) (hb : 200 ≤ b ∧ b ≤ 1200) (hs : 0 ≤ s ∧ s < 360) : 640000 ≤ sqB a b s ∧ sqB a b s ≤ 67240000 := by
  obtain ⟨b1, b2, b3, b4, b5⟩ := sqB_bd (a := a) (b := b) (s := s) (by omega) (by omega) hs
  have h : 800 * 800 ≤ (a - b) * (a - b) := sq_le (by omega) (by omega)
  rw [Int.sub_mul, Int.mul_sub, Int.mul_sub, Int.mul_comm b a] at h
  have e : 2 * a * b = 2 * (a * b) := Int.mul_assoc _ _ _
  unfold sqB
  generalize nearF (2 * a * b * cosV s) 1000000000 = q at b5
  omega
theorem sqV_in {h l r lo ro rh d o k : Int} (b : Bool) (e : whB h l r lo ro rh d o k = true) : 640000 ≤ sqV h l r lo ro rh d o k b ∧ sqV h l r lo ro rh d o k b ≤ 68680000 := by
  obtain ⟨h1, h2, h3, h4, h5, h6, h7, h8⟩ := whB_t e
  have a1 := sqB_in h6 (flV_bd b h2 h3) (step_bd h1.1 h8)
  have a2 := off_sq (offV_bd b h4 h5 h7)
  unfold sqV; omega
theorem lenV_in {h l r lo ro rh d o k : Int} (b : Bool) (e : whB h l r lo ro rh d o k = true) : (800 ≤ rootF (sqV h l r lo ro rh d o k b) ∧ rootF (sqV h l r lo ro rh d o k b) ≤ 8287) ∧ 388 ≤ lenV h l r lo ro rh d o k b ∧ lenV h l r lo ro rh d o k b ≤ 4132 := by
  have h1 := sqV_in b e
  have h2 := rootF_lo (n := sqV h l r lo ro rh d o k b) (m := 800) (by omega) (by omega) (by omega)
  have h3 := rootF_hi (n := sqV h l r lo ro rh d o k b) (m := 8288) (by omega) (by omega) (by omega)
  unfold lenV; omega
set_option maxRecDepth 20000 in
set_option maxHeartbeats 3200000 in
theorem iOff_c (h l r lo ro rh d o k : Int) (b : Bool) (w : World) (hW : whB h l r lo ro rh d o k = true) : Calls Try.prog 58 #[.agg #[.int .i64 h, .int .i64 l, .int .i64 r, .int .i64 lo, .int .i64 ro, .int .i64 rh, .int .i64 d, .int .i64 o, .int .i64 k], .bool b] w fun e w' => e = .returned (.int .i64 (offV lo ro o b)) ∧ Upd [] w w' := by
  have HS0 : Hid (∀ w', Upd [] (w.alloc (.cells #[.int .i64 h, .int .i64 l, .int .i64 r, .int .i64 lo, .int .i64 ro, .int .i64 rh, .int .i64 d, .int .i64 o, .int .i64 k] 34)) w' → w'.cell? ⟨w.heap.size, 0, none⟩ = some (.int .i64 h) ∧ w'.cell? ⟨w.heap.size, 1, none⟩ = some (.int .i64 l) ∧ w'.cell? ⟨w.heap.size, 2, none⟩ = some (.int .i64 r) ∧ w'.cell? ⟨w.heap.size, 3, none⟩ = some (.int .i64 lo) ∧ w'.cell? ⟨w.heap.size, 4, none⟩ = some (.int .i64 ro) ∧ w'.cell? ⟨w.heap.size, 5, none⟩ = some (.int .i64 rh) ∧ w'.cell? ⟨w.heap.size, 6, none⟩ = some (.int .i64 d) ∧ w'.cell? ⟨w.heap.size, 7, none⟩ = some (.int .i64 o) ∧ w'.cell? ⟨w.heap.size, 8, none⟩ = some (.int .i64 k)) := fun w' u => ((Blk.new w [h, l, r, lo, ro, rh, d, o, k] 34).kept0 u).whC
  have U : Hid (Upd [] w (w.alloc (.cells #[.int .i64 h, .int .i64 l, .int .i64 r, .int .i64 lo, .int .i64 ro, .int .i64 rh, .int .i64 d, .int .i64 o, .int .i64 k] 34))) := (Upd.refl w).alloc _
  obtain ⟨X, hX⟩ : ∃ X, w.heap.size = X := ⟨_, rfl⟩
  obtain ⟨w1, hw1⟩ : ∃ W, w.alloc (.cells #[.int .i64 h, .int .i64 l, .int .i64 r, .int .i64 lo, .int .i64 ro, .int .i64 rh, .int .i64 d, .int .i64 o, .int .i64 k] 34) = W := ⟨_, rfl⟩
  have HS : Hid (∀ w', Upd [] w1 w' → w'.cell? ⟨X, 0, none⟩ = some (.int .i64 h) ∧ w'.cell? ⟨X, 1, none⟩ = some (.int .i64 l) ∧ w'.cell? ⟨X, 2, none⟩ = some (.int .i64 r) ∧ w'.cell? ⟨X, 3, none⟩ = some (.int .i64 lo) ∧ w'.cell? ⟨X, 4, none⟩ = some (.int .i64 ro) ∧ w'.cell? ⟨X, 5, none⟩ = some (.int .i64 rh) ∧ w'.cell? ⟨X, 6, none⟩ = some (.int .i64 d) ∧ w'.cell? ⟨X, 7, none⟩ = some (.int .i64 o) ∧ w'.cell? ⟨X, 8, none⟩ = some (.int .i64 k)) := by rw [← hw1, ← hX]; exact HS0
  rw [hw1] at U
  obtain ⟨c0, c1, c2, c3, c4, c5, c6, c7, c8⟩ := HS.out w1 (Upd.refl _)
  clear HS0
  obtain ⟨h1, h2, h3, h4, h5, h6, h7, h8⟩ := whB_t hW
  cases b
  · have hw2 : IntKind.i64.wrap (lo + o) = lo + o := IntWalk.i64_in _ (by omega)
    clear h1 h2 h3 h4 h5 h6 h7 h8 hW
    go_enter Try.func58, Try.ntmps58
    go_wp2_with fail
    go_ret
    exact ⟨rfl, U.out⟩
  · have hw2 : IntKind.i64.wrap (ro - o) = ro - o := IntWalk.i64_in _ (by omega)
    clear h1 h2 h3 h4 h5 h6 h7 h8 hW
    go_enter Try.func58, Try.ntmps58
    go_wp2_with fail
    go_ret
    exact ⟨rfl, U.out⟩
set_option maxRecDepth 20000 in
set_option maxHeartbeats 3200000 in
theorem sOff_c (h l r lo ro rh d o k : Int) (b : Bool) (w : World) (hW : whB h l r lo ro rh d o k = true) : Calls Try.prog 60 #[.agg #[.int .i64 h, .int .i64 l, .int .i64 r, .int .i64 lo, .int .i64 ro, .int .i64 rh, .int .i64 d, .int .i64 o, .int .i64 k], .bool b] w fun e w' => e = .returned (.int .i64 (offV lo ro o b)) ∧ Upd [] w w' := by
  have HS0 : Hid (∀ w', Upd [] (w.alloc (.cells #[.int .i64 h, .int .i64 l, .int .i64 r, .int .i64 lo, .int .i64 ro, .int .i64 rh, .int .i64 d, .int .i64 o, .int .i64 k] 34)) w' → w'.cell? ⟨w.heap.size, 0, none⟩ = some (.int .i64 h) ∧ w'.cell? ⟨w.heap.size, 1, none⟩ = some (.int .i64 l) ∧ w'.cell? ⟨w.heap.size, 2, none⟩ = some (.int .i64 r) ∧ w'.cell? ⟨w.heap.size, 3, none⟩ = some (.int .i64 lo) ∧ w'.cell? ⟨w.heap.size, 4, none⟩ = some (.int .i64 ro) ∧ w'.cell? ⟨w.heap.size, 5, none⟩ = some (.int .i64 rh) ∧ w'.cell? ⟨w.heap.size, 6, none⟩ = some (.int .i64 d) ∧ w'.cell? ⟨w.heap.size, 7, none⟩ = some (.int .i64 o) ∧ w'.cell? ⟨w.heap.size, 8, none⟩ = some (.int .i64 k)) := fun w' u => ((Blk.new w [h, l, r, lo, ro, rh, d, o, k] 34).kept0 u).whC
  have U : Hid (Upd [] w (w.alloc (.cells #[.int .i64 h, .int .i64 l, .int .i64 r, .int .i64 lo, .int .i64 ro, .int .i64 rh, .int .i64 d, .int .i64 o, .int .i64 k] 34))) := (Upd.refl w).alloc _
  obtain ⟨X, hX⟩ : ∃ X, w.heap.size = X := ⟨_, rfl⟩
  obtain ⟨w1, hw1⟩ : ∃ W, w.alloc (.cells #[.int .i64 h, .int .i64 l, .int .i64 r, .int .i64 lo, .int .i64 ro, .int .i64 rh, .int .i64 d, .int .i64 o, .int .i64 k] 34) = W := ⟨_, rfl⟩
  have HS : Hid (∀ w', Upd [] w1 w' → w'.cell? ⟨X, 0, none⟩ = some (.int .i64 h) ∧ w'.cell? ⟨X, 1, none⟩ = some (.int .i64 l) ∧ w'.cell? ⟨X, 2, none⟩ = some (.int .i64 r) ∧ w'.cell? ⟨X, 3, none⟩ = some (.int .i64 lo) ∧ w'.cell? ⟨X, 4, none⟩ = some (.int .i64 ro) ∧ w'.cell? ⟨X, 5, none⟩ = some (.int .i64 rh) ∧ w'.cell? ⟨X, 6, none⟩ = some (.int .i64 d) ∧ w'.cell? ⟨X, 7, none⟩ = some (.int .i64 o) ∧ w'.cell? ⟨X, 8, none⟩ = some (.int .i64 k)) := by rw [← hw1, ← hX]; exact HS0
  rw [hw1] at U
  obtain ⟨c0, c1, c2, c3, c4, c5, c6, c7, c8⟩ := HS.out w1 (Upd.refl _)
  clear HS0
  obtain ⟨h1, h2, h3, h4, h5, h6, h7, h8⟩ := whB_t hW
  cases b
  · have hw2 : IntKind.i64.wrap (lo + o) = lo + o := IntWalk.i64_in _ (by omega)
    clear h1 h2 h3 h4 h5 h6 h7 h8 hW
    go_enter Try.func60, Try.ntmps60
    go_wp2_with fail
    go_ret
    exact ⟨rfl, U.out⟩
  · have hw2 : IntKind.i64.wrap (ro - o) = ro - o := IntWalk.i64_in _ (by omega)
    clear h1 h2 h3 h4 h5 h6 h7 h8 hW
    go_enter Try.func60, Try.ntmps60
    go_wp2_with fail
    go_ret
    exact ⟨rfl, U.out⟩
set_option maxRecDepth 20000 in
set_option maxHeartbeats 3200000 in
theorem iSq_c (h l r lo ro rh d o k : Int) (b : Bool) (w : World) (hW : whB h l r lo ro rh d o k = true) : Calls Try.prog 50 #[.agg #[.int .i64 h, .int .i64 l, .int .i64 r, .int .i64 lo, .int .i64 ro, .int .i64 rh, .int .i64 d, .int .i64 o, .int .i64 k], .bool b] w fun e w' => e = .returned (.int .i64 (sqV h l r lo ro rh d o k b)) ∧ Upd [] w w' := by
  have HS0 : Hid (∀ w', Upd [] (w.alloc (.cells #[.int .i64 h, .int .i64 l, .int .i64 r, .int .i64 lo, .int .i64 ro, .int .i64 rh, .int .i64 d, .int .i64 o, .int .i64 k] 34)) w' → w'.cell? ⟨w.heap.size, 0, none⟩ = some (.int .i64 h) ∧ w'.cell? ⟨w.heap.size, 1, none⟩ = some (.int .i64 l) ∧ w'.cell? ⟨w.heap.size, 2, none⟩ = some (.int .i64 r) ∧ w'.cell? ⟨w.heap.size, 3, none⟩ = some (.int .i64 lo) ∧ w'.cell? ⟨w.heap.size, 4, none⟩ = some (.int .i64 ro) ∧ w'.cell? ⟨w.heap.size, 5, none⟩ = some (.int .i64 rh) ∧ w'.cell? ⟨w.heap.size, 6, none⟩ = some (.int .i64 d) ∧ w'.cell? ⟨w.heap.size, 7, none⟩ = some (.int .i64 o) ∧ w'.cell? ⟨w.heap.size, 8, none⟩ = some (.int .i64 k)) := fun w' u => ((Blk.new w [h, l, r, lo, ro, rh, d, o, k] 34).kept0 u).whC
  have U : Hid (Upd [] w (w.alloc (.cells #[.int .i64 h, .int .i64 l, .int .i64 r, .int .i64 lo, .int .i64 ro, .int .i64 rh, .int .i64 d, .int .i64 o, .int .i64 k] 34))) := (Upd.refl w).alloc _
  obtain ⟨X, hX⟩ : ∃ X, w.heap.size = X := ⟨_, rfl⟩
  obtain ⟨w1, hw1⟩ : ∃ W, w.alloc (.cells #[.int .i64 h, .int .i64 l, .int .i64 r, .int .i64 lo, .int .i64 ro, .int .i64 rh, .int .i64 d, .int .i64 o, .int .i64 k] 34) = W := ⟨_, rfl⟩
  have HS : Hid (∀ w', Upd [] w1 w' → w'.cell? ⟨X, 0, none⟩ = some (.int .i64 h) ∧ w'.cell? ⟨X, 1, none⟩ = some (.int .i64 l) ∧ w'.cell? ⟨X, 2, none⟩ = some (.int .i64 r) ∧ w'.cell? ⟨X, 3, none⟩ = some (.int .i64 lo) ∧ w'.cell? ⟨X, 4, none⟩ = some (.int .i64 ro) ∧ w'.cell? ⟨X, 5, none⟩ = some (.int .i64 rh) ∧ w'.cell? ⟨X, 6, none⟩ = some (.int .i64 d) ∧ w'.cell? ⟨X, 7, none⟩ = some (.int .i64 o) ∧ w'.cell? ⟨X, 8, none⟩ = some (.int .i64 k)) := by rw [← hw1, ← hX]; exact HS0
  rw [hw1] at U
  obtain ⟨c0, c1, c2, c3, c4, c5, c6, c7, c8⟩ := HS.out w1 (Upd.refl _)
  clear HS0
  obtain ⟨h1, h2, h3, h4, h5, h6, h7, h8⟩ := whB_t hW
  obtain ⟨st, hst⟩ : ∃ st, 1440 * k / h = st := ⟨_, rfl⟩
  have hs := step_bd h1.1 h8
  have ho := offV_bd b h4 h5 h7
  have hx := off_sq ho
  have hfl := flV_bd b h2 h3
  have a1 := sqB_in h6 hfl hs
  rw [hst] at hs a1
  have hq : IntKind.i64.wrap (1440 * k) = 1440 * k := IntWalk.i64_in _ (by omega)
  have hne : ¬ h = 0 := by omega
  have hq2 : IntKind.i64.wrap ((1440 * k).tdiv h) = st := by rw [Int.tdiv_eq_ediv_of_nonneg (by omega), hst]; exact IntWalk.i64_in _ (by omega)
  have HV : Hid (sqV h l r lo ro rh d o k b = sqB d (flV l r b) st + 4 * offV lo ro o b * offV lo ro o b) := by show _ = _; rw [← hst]; rfl
  have hq3 : IntKind.i64.wrap (4 * offV lo ro o b) = 4 * offV lo ro o b := IntWalk.i64_in _ (by omega)
  have hq4 : IntKind.i64.wrap (4 * offV lo ro o b * offV lo ro o b) = 4 * offV lo ro o b * offV lo ro o b := IntWalk.i64_in _ (by omega)
  have hq5 : IntKind.i64.wrap (sqB d (flV l r b) st + 4 * offV lo ro o b * offV lo ro o b) = sqB d (flV l r b) st + 4 * offV lo ro o b * offV lo ro o b := IntWalk.i64_in _ (by omega)
  have HD : Hid (0 ≤ d ∧ d ≤ 7000) := ⟨by omega, by omega⟩
  have HF : Hid (0 ≤ flV l r b ∧ flV l r b ≤ 1200) := ⟨by omega, by omega⟩
  have HT := Lib.hid hs
  clear h1 h2 h3 h4 h5 h6 h7 h8 hst hs ho hx hfl a1
  obtain ⟨of, HO⟩ : ∃ x, Hid (offV lo ro o b = x) := ⟨_, rfl⟩
  rw [HO.out] at HV hq3 hq4 hq5
  cases b
  all_goals
    go_enter Try.func50, Try.ntmps50
    go_wp2_with fail
    try rw [hw1]
    clear hw1 hX
    refine (iOff_c _ _ _ _ _ _ _ _ _ _ _ hW).mono ?_
    rintro e w2 ⟨rfl, hu⟩
    have V := Lib.hid hu
    rw [HO.out]
    clear hu c0 c1 c2 c3 c4 c5 c6 c7 c8
    obtain ⟨c0, c1, c2, c3, c4, c5, c6, c7, c8⟩ := HS.out _ V.out
    go_wp2_with fail
    have r0 := cell_regrown c0
    have r1 := cell_regrown c1
    have r2 := cell_regrown c2
    have r3 := cell_regrown c3
    have r4 := cell_regrown c4
    have r5 := cell_regrown c5
    have r6 := cell_regrown c6
    have r7 := cell_regrown c7
    have r8 := cell_regrown c8
    refine wp_region_quiet_below (by kernel_rfl) (by kernel_rfl) ?_
    repeat (go_big_quiet_step (first | (go_at_call 69; exact Calls.regrown_of ((squareBetween_c _ _ _ _ HD.out HF.out HT.out).mono fun _ _ hh => ⟨hh.1, hh.2 ▸ (Upd.refl _).below⟩))))
    refine wpQuiet_nil ?_
    intro _ hw'
    obtain ⟨⟨dq, osq⟩, hw''⟩ := hw'
    subst hw''
    go_wp2_with fail
    go_ret
    exact ⟨ret_int HV.out.symm, U.out.then0 (V.out.then0 (Upd.regrown _ _ _))⟩
set_option maxRecDepth 20000 in
set_option maxHeartbeats 3200000 in
theorem sSq_c (h l r lo ro rh d o k : Int) (b : Bool) (w : World) (hW : whB h l r lo ro rh d o k = true) : Calls Try.prog 51 #[.agg #[.int .i64 h, .int .i64 l, .int .i64 r, .int .i64 lo, .int .i64 ro, .int .i64 rh, .int .i64 d, .int .i64 o, .int .i64 k], .bool b] w fun e w' => e = .returned (.int .i64 (sqV h l r lo ro rh d o k b)) ∧ Upd [] w w' := by
  have HS0 : Hid (∀ w', Upd [] (w.alloc (.cells #[.int .i64 h, .int .i64 l, .int .i64 r, .int .i64 lo, .int .i64 ro, .int .i64 rh, .int .i64 d, .int .i64 o, .int .i64 k] 34)) w' → w'.cell? ⟨w.heap.size, 0, none⟩ = some (.int .i64 h) ∧ w'.cell? ⟨w.heap.size, 1, none⟩ = some (.int .i64 l) ∧ w'.cell? ⟨w.heap.size, 2, none⟩ = some (.int .i64 r) ∧ w'.cell? ⟨w.heap.size, 3, none⟩ = some (.int .i64 lo) ∧ w'.cell? ⟨w.heap.size, 4, none⟩ = some (.int .i64 ro) ∧ w'.cell? ⟨w.heap.size, 5, none⟩ = some (.int .i64 rh) ∧ w'.cell? ⟨w.heap.size, 6, none⟩ = some (.int .i64 d) ∧ w'.cell? ⟨w.heap.size, 7, none⟩ = some (.int .i64 o) ∧ w'.cell? ⟨w.heap.size, 8, none⟩ = some (.int .i64 k)) := fun w' u => ((Blk.new w [h, l, r, lo, ro, rh, d, o, k] 34).kept0 u).whC
  have U : Hid (Upd [] w (w.alloc (.cells #[.int .i64 h, .int .i64 l, .int .i64 r, .int .i64 lo, .int .i64 ro, .int .i64 rh, .int .i64 d, .int .i64 o, .int .i64 k] 34))) := (Upd.refl w).alloc _
  obtain ⟨X, hX⟩ : ∃ X, w.heap.size = X := ⟨_, rfl⟩
  obtain ⟨w1, hw1⟩ : ∃ W, w.alloc (.cells #[.int .i64 h, .int .i64 l, .int .i64 r, .int .i64 lo, .int .i64 ro, .int .i64 rh, .int .i64 d, .int .i64 o, .int .i64 k] 34) = W := ⟨_, rfl⟩
  have HS : Hid (∀ w', Upd [] w1 w' → w'.cell? ⟨X, 0, none⟩ = some (.int .i64 h) ∧ w'.cell? ⟨X, 1, none⟩ = some (.int .i64 l) ∧ w'.cell? ⟨X, 2, none⟩ = some (.int .i64 r) ∧ w'.cell? ⟨X, 3, none⟩ = some (.int .i64 lo) ∧ w'.cell? ⟨X, 4, none⟩ = some (.int .i64 ro) ∧ w'.cell? ⟨X, 5, none⟩ = some (.int .i64 rh) ∧ w'.cell? ⟨X, 6, none⟩ = some (.int .i64 d) ∧ w'.cell? ⟨X, 7, none⟩ = some (.int .i64 o) ∧ w'.cell? ⟨X, 8, none⟩ = some (.int .i64 k)) := by rw [← hw1, ← hX]; exact HS0
  rw [hw1] at U
  obtain ⟨c0, c1, c2, c3, c4, c5, c6, c7, c8⟩ := HS.out w1 (Upd.refl _)
  clear HS0
  obtain ⟨h1, h2, h3, h4, h5, h6, h7, h8⟩ := whB_t hW
  obtain ⟨st, hst⟩ : ∃ st, 1440 * k / h = st := ⟨_, rfl⟩
  have hs := step_bd h1.1 h8
  have ho := offV_bd b h4 h5 h7
  have hx := off_sq ho
  have hfl := flV_bd b h2 h3
  have a1 := sqB_in h6 hfl hs
  rw [hst] at hs a1
  have hq : IntKind.i64.wrap (1440 * k) = 1440 * k := IntWalk.i64_in _ (by omega)
  have hne : ¬ h = 0 := by omega
  have hq2 : IntKind.i64.wrap ((1440 * k).tdiv h) = st := by rw [Int.tdiv_eq_ediv_of_nonneg (by omega), hst]; exact IntWalk.i64_in _ (by omega)
  have HV : Hid (sqV h l r lo ro rh d o k b = sqB d (flV l r b) st + 4 * offV lo ro o b * offV lo ro o b) := by show _ = _; rw [← hst]; rfl
  have hq3 : IntKind.i64.wrap (4 * offV lo ro o b) = 4 * offV lo ro o b := IntWalk.i64_in _ (by omega)
  have hq4 : IntKind.i64.wrap (4 * offV lo ro o b * offV lo ro o b) = 4 * offV lo ro o b * offV lo ro o b := IntWalk.i64_in _ (by omega)
  have hq5 : IntKind.i64.wrap (sqB d (flV l r b) st + 4 * offV lo ro o b * offV lo ro o b) = sqB d (flV l r b) st + 4 * offV lo ro o b * offV lo ro o b := IntWalk.i64_in _ (by omega)
  have HD : Hid (0 ≤ d ∧ d ≤ 7000) := ⟨by omega, by omega⟩
  have HF : Hid (0 ≤ flV l r b ∧ flV l r b ≤ 1200) := ⟨by omega, by omega⟩
  have HT := Lib.hid hs
  clear h1 h2 h3 h4 h5 h6 h7 h8 hst hs ho hx hfl a1
  obtain ⟨of, HO⟩ : ∃ x, Hid (offV lo ro o b = x) := ⟨_, rfl⟩
  rw [HO.out] at HV hq3 hq4 hq5
  cases b
  all_goals
    go_enter Try.func51, Try.ntmps51
    go_wp2_with fail
    try rw [hw1]
    clear hw1 hX
    refine (sOff_c _ _ _ _ _ _ _ _ _ _ _ hW).mono ?_
    rintro e w2 ⟨rfl, hu⟩
    have V := Lib.hid hu
    rw [HO.out]
    clear hu c0 c1 c2 c3 c4 c5 c6 c7 c8
    obtain ⟨c0, c1, c2, c3, c4, c5, c6, c7, c8⟩ := HS.out _ V.out
    go_wp2_with fail
    have r0 := cell_regrown c0
    have r1 := cell_regrown c1
    have r2 := cell_regrown c2
    have r3 := cell_regrown c3
    have r4 := cell_regrown c4
    have r5 := cell_regrown c5
    have r6 := cell_regrown c6
    have r7 := cell_regrown c7
    have r8 := cell_regrown c8
    refine wp_region_quiet_below (by kernel_rfl) (by kernel_rfl) ?_
    repeat (go_big_quiet_step (first | (go_at_call 70; exact Calls.regrown_of ((l03Square_c _ _ _ _ HD.out HF.out HT.out).mono fun _ _ hh => ⟨hh.1, hh.2.below⟩))))
    refine wpQuiet_nil ?_
    intro _ hw'
    obtain ⟨⟨dq, osq⟩, hw''⟩ := hw'
    subst hw''
    go_wp2_with fail
    go_ret
    exact ⟨ret_int HV.out.symm, U.out.then0 (V.out.then0 (Upd.regrown _ _ _))⟩
set_option maxRecDepth 20000 in
set_option maxHeartbeats 3200000 in
theorem iLen_c (h l r lo ro rh d o k : Int) (b : Bool) (w : World) (hW : whB h l r lo ro rh d o k = true) : Calls Try.prog 47 #[.agg #[.int .i64 h, .int .i64 l, .int .i64 r, .int .i64 lo, .int .i64 ro, .int .i64 rh, .int .i64 d, .int .i64 o, .int .i64 k], .bool b] w fun e w' => e = .returned (.int .i64 (lenV h l r lo ro rh d o k b)) ∧ Upd [] w w' := by
  have HS0 : Hid (∀ w', Upd [] (w.alloc (.cells #[.int .i64 h, .int .i64 l, .int .i64 r, .int .i64 lo, .int .i64 ro, .int .i64 rh, .int .i64 d, .int .i64 o, .int .i64 k] 34)) w' → w'.cell? ⟨w.heap.size, 0, none⟩ = some (.int .i64 h) ∧ w'.cell? ⟨w.heap.size, 1, none⟩ = some (.int .i64 l) ∧ w'.cell? ⟨w.heap.size, 2, none⟩ = some (.int .i64 r) ∧ w'.cell? ⟨w.heap.size, 3, none⟩ = some (.int .i64 lo) ∧ w'.cell? ⟨w.heap.size, 4, none⟩ = some (.int .i64 ro) ∧ w'.cell? ⟨w.heap.size, 5, none⟩ = some (.int .i64 rh) ∧ w'.cell? ⟨w.heap.size, 6, none⟩ = some (.int .i64 d) ∧ w'.cell? ⟨w.heap.size, 7, none⟩ = some (.int .i64 o) ∧ w'.cell? ⟨w.heap.size, 8, none⟩ = some (.int .i64 k)) := fun w' u => ((Blk.new w [h, l, r, lo, ro, rh, d, o, k] 34).kept0 u).whC
  have U : Hid (Upd [] w (w.alloc (.cells #[.int .i64 h, .int .i64 l, .int .i64 r, .int .i64 lo, .int .i64 ro, .int .i64 rh, .int .i64 d, .int .i64 o, .int .i64 k] 34))) := (Upd.refl w).alloc _
  obtain ⟨X, hX⟩ : ∃ X, w.heap.size = X := ⟨_, rfl⟩
  obtain ⟨w1, hw1⟩ : ∃ W, w.alloc (.cells #[.int .i64 h, .int .i64 l, .int .i64 r, .int .i64 lo, .int .i64 ro, .int .i64 rh, .int .i64 d, .int .i64 o, .int .i64 k] 34) = W := ⟨_, rfl⟩
  have HS : Hid (∀ w', Upd [] w1 w' → w'.cell? ⟨X, 0, none⟩ = some (.int .i64 h) ∧ w'.cell? ⟨X, 1, none⟩ = some (.int .i64 l) ∧ w'.cell? ⟨X, 2, none⟩ = some (.int .i64 r) ∧ w'.cell? ⟨X, 3, none⟩ = some (.int .i64 lo) ∧ w'.cell? ⟨X, 4, none⟩ = some (.int .i64 ro) ∧ w'.cell? ⟨X, 5, none⟩ = some (.int .i64 rh) ∧ w'.cell? ⟨X, 6, none⟩ = some (.int .i64 d) ∧ w'.cell? ⟨X, 7, none⟩ = some (.int .i64 o) ∧ w'.cell? ⟨X, 8, none⟩ = some (.int .i64 k)) := by rw [← hw1, ← hX]; exact HS0
  rw [hw1] at U
  obtain ⟨c0, c1, c2, c3, c4, c5, c6, c7, c8⟩ := HS.out w1 (Upd.refl _)
  clear HS0
  have hb := lenV_in b hW
  have hs := sqV_in b hW
  obtain ⟨S, HSq⟩ : ∃ x, Hid (sqV h l r lo ro rh d o k b = x) := ⟨_, rfl⟩
  obtain ⟨R, HRt⟩ : ∃ x, Hid (rootF S = x) := ⟨_, rfl⟩
  have HV : Hid (lenV h l r lo ro rh d o k b = (R + 1) / 2 - 12) := by show _ = _; unfold lenV; rw [HSq.out, HRt.out]
  rw [HV.out, HSq.out, HRt.out] at hb
  rw [HSq.out] at hs
  have HR : Hid (0 ≤ S ∧ S ≤ 4000000000000000000) := ⟨by omega, by omega⟩
  have hq1 : IntKind.i64.wrap (R + 1) = R + 1 := IntWalk.i64_in _ (by omega)
  have hq2 : IntKind.i64.wrap ((R + 1).tdiv 2) = (R + 1) / 2 := by rw [Int.tdiv_eq_ediv_of_nonneg (by omega)]; exact IntWalk.i64_in _ (by omega)
  have hq3 : IntKind.i64.wrap ((R + 1) / 2 - 12) = (R + 1) / 2 - 12 := IntWalk.i64_in _ (by omega)
  clear hb hs
  go_enter Try.func47, Try.ntmps47
  go_wp2_with fail
  try rw [hw1]
  clear hw1 hX
  refine (iSq_c _ _ _ _ _ _ _ _ _ _ _ hW).mono ?_
  rintro e w2 ⟨rfl, hu⟩
  have V := Lib.hid hu
  rw [HSq.out]
  clear hu c0 c1 c2 c3 c4 c5 c6 c7 c8
  go_wp2_with (go_at_call 68; refine (root_c _ _ HR.out).mono ?_; rintro e w' ⟨rfl, rfl⟩; rw [HRt.out])
  go_ret
  exact ⟨ret_int HV.out.symm, U.out.then0 V.out⟩
set_option maxRecDepth 20000 in
set_option maxHeartbeats 3200000 in
theorem sLen_c (h l r lo ro rh d o k : Int) (b : Bool) (w : World) (hW : whB h l r lo ro rh d o k = true) : Calls Try.prog 45 #[.agg #[.int .i64 h, .int .i64 l, .int .i64 r, .int .i64 lo, .int .i64 ro, .int .i64 rh, .int .i64 d, .int .i64 o, .int .i64 k], .bool b] w fun e w' => e = .returned (.int .i64 (lenV h l r lo ro rh d o k b)) ∧ Upd [] w w' := by
  have HS0 : Hid (∀ w', Upd [] (w.alloc (.cells #[.int .i64 h, .int .i64 l, .int .i64 r, .int .i64 lo, .int .i64 ro, .int .i64 rh, .int .i64 d, .int .i64 o, .int .i64 k] 34)) w' → w'.cell? ⟨w.heap.size, 0, none⟩ = some (.int .i64 h) ∧ w'.cell? ⟨w.heap.size, 1, none⟩ = some (.int .i64 l) ∧ w'.cell? ⟨w.heap.size, 2, none⟩ = some (.int .i64 r) ∧ w'.cell? ⟨w.heap.size, 3, none⟩ = some (.int .i64 lo) ∧ w'.cell? ⟨w.heap.size, 4, none⟩ = some (.int .i64 ro) ∧ w'.cell? ⟨w.heap.size, 5, none⟩ = some (.int .i64 rh) ∧ w'.cell? ⟨w.heap.size, 6, none⟩ = some (.int .i64 d) ∧ w'.cell? ⟨w.heap.size, 7, none⟩ = some (.int .i64 o) ∧ w'.cell? ⟨w.heap.size, 8, none⟩ = some (.int .i64 k)) := fun w' u => ((Blk.new w [h, l, r, lo, ro, rh, d, o, k] 34).kept0 u).whC
  have U : Hid (Upd [] w (w.alloc (.cells #[.int .i64 h, .int .i64 l, .int .i64 r, .int .i64 lo, .int .i64 ro, .int .i64 rh, .int .i64 d, .int .i64 o, .int .i64 k] 34))) := (Upd.refl w).alloc _
  obtain ⟨X, hX⟩ : ∃ X, w.heap.size = X := ⟨_, rfl⟩
  obtain ⟨w1, hw1⟩ : ∃ W, w.alloc (.cells #[.int .i64 h, .int .i64 l, .int .i64 r, .int .i64 lo, .int .i64 ro, .int .i64 rh, .int .i64 d, .int .i64 o, .int .i64 k] 34) = W := ⟨_, rfl⟩
  have HS : Hid (∀ w', Upd [] w1 w' → w'.cell? ⟨X, 0, none⟩ = some (.int .i64 h) ∧ w'.cell? ⟨X, 1, none⟩ = some (.int .i64 l) ∧ w'.cell? ⟨X, 2, none⟩ = some (.int .i64 r) ∧ w'.cell? ⟨X, 3, none⟩ = some (.int .i64 lo) ∧ w'.cell? ⟨X, 4, none⟩ = some (.int .i64 ro) ∧ w'.cell? ⟨X, 5, none⟩ = some (.int .i64 rh) ∧ w'.cell? ⟨X, 6, none⟩ = some (.int .i64 d) ∧ w'.cell? ⟨X, 7, none⟩ = some (.int .i64 o) ∧ w'.cell? ⟨X, 8, none⟩ = some (.int .i64 k)) := by rw [← hw1, ← hX]; exact HS0
  rw [hw1] at U
  obtain ⟨c0, c1, c2, c3, c4, c5, c6, c7, c8⟩ := HS.out w1 (Upd.refl _)
  clear HS0
  have hb := lenV_in b hW
  have hs := sqV_in b hW
  obtain ⟨S, HSq⟩ : ∃ x, Hid (sqV h l r lo ro rh d o k b = x) := ⟨_, rfl⟩
  obtain ⟨R, HRt⟩ : ∃ x, Hid (rootF S = x) := ⟨_, rfl⟩
  have HV : Hid (lenV h l r lo ro rh d o k b = (R + 1) / 2 - 12) := by show _ = _; unfold lenV; rw [HSq.out, HRt.out]
  rw [HV.out, HSq.out, HRt.out] at hb
  rw [HSq.out] at hs
  have HR : Hid (0 ≤ S ∧ S ≤ 4000000000000000000) := ⟨by omega, by omega⟩
  have hq1 : IntKind.i64.wrap (R + 1) = R + 1 := IntWalk.i64_in _ (by omega)
  have hq2 : IntKind.i64.wrap ((R + 1).tdiv 2) = (R + 1) / 2 := by rw [Int.tdiv_eq_ediv_of_nonneg (by omega)]; exact IntWalk.i64_in _ (by omega)
  have hq3 : IntKind.i64.wrap ((R + 1) / 2 - 12) = (R + 1) / 2 - 12 := IntWalk.i64_in _ (by omega)
  clear hb hs
  go_enter Try.func45, Try.ntmps45
  go_wp2_with fail
  try rw [hw1]
  clear hw1 hX
  refine (sSq_c _ _ _ _ _ _ _ _ _ _ _ hW).mono ?_
  rintro e w2 ⟨rfl, hu⟩
  have V := Lib.hid hu
  rw [HSq.out]
  clear hu c0 c1 c2 c3 c4 c5 c6 c7 c8
  go_wp2_with (go_at_call 65; refine (l02Root_c _ _ HR.out).mono ?_; rintro e w' ⟨rfl, rfl⟩; rw [HRt.out])
  go_ret
  exact ⟨ret_int HV.out.symm, U.out.then0 V.out⟩
end Go.Proofs.Ytbjeaadnanimfaa
