/- The contracts of chapter 8: IsTrue, WorstPlace, DishAfter, UndoPlan. -/
import Derived.Test.YtiiljmaianfdeaaDev
namespace Go.Proofs.Ytiiljmaianfdeaa
open Go.RowKit
set_option linter.unusedVariables false
set_option linter.unusedSimpArgs false

theorem ret_bi {a b : Bool} {c d : Int} (h : a = b) (h2 : c = d) : Ending.returned (.tuple #[.bool a, .int .i64 c]) = .returned (.tuple #[.bool b, .int .i64 d]) := by rw [h, h2]
def istV (xs : List Int) (t : Int) : Bool := areB xs (-500) 500 4 10 && inB t 0 500 && allB xs (-t) t
def istE (xs : List Int) (t : Int) : Int := if areB xs (-500) 500 4 10 then (if inB t 0 500 then 0 else 2) else 1
theorem iIsTrue_c (a : Option Addr) (c : Nat) (xs : List Int) (t : Int) (w : World) (h : IntsAt w a xs) (hl : xs.length ≤ 1048576) :
    Calls Try.prog 34 #[.slice a xs.length c, .int .i64 t] w fun e w' => e = .returned (.tuple #[.bool (istV xs t), .int .i64 (istE xs t)]) ∧ Upd [] w w' := by
  have H := Lib.hid h; clear h
  cases h1 : areB xs (-500) 500 4 10
  · have HE : Hid (istV xs t = false ∧ istE xs t = 1) := by constructor <;> simp [istV, istE, h1]
    go_enter Try.func34, Try.ntmps34
    go_wp2_with (go_at_call 45; refine (iAreDeviations_c _ _ _ _ H.out hl).mono ?_; rintro e w' ⟨rfl, rfl⟩)
    go_ret2
    exact ⟨ret_bi HE.out.1.symm HE.out.2.symm, Upd.refl w⟩
  · cases h2 : inB t 0 500
    · have HE : Hid (istV xs t = false ∧ istE xs t = 2) := by constructor <;> simp [istV, istE, h1, h2]
      go_enter Try.func34, Try.ntmps34
      go_wp2_with (first | (go_at_call 45; refine (iAreDeviations_c _ _ _ _ H.out hl).mono ?_; rintro e w' ⟨rfl, rfl⟩) | (go_at_call 63; refine (isTolerance_c _ _).mono ?_; rintro e w' ⟨rfl, rfl⟩))
      go_ret2
      exact ⟨ret_bi HE.out.1.symm HE.out.2.symm, Upd.refl w⟩
    · have HE : Hid (istV xs t = allB xs (-t) t ∧ istE xs t = 0) := by constructor <;> simp [istV, istE, h1, h2]
      have ht := inB_t h2
      go_enter Try.func34, Try.ntmps34
      go_wp2_with (first | (go_at_call 45; refine (iAreDeviations_c _ _ _ _ H.out hl).mono ?_; rintro e w' ⟨rfl, rfl⟩) | (go_at_call 63; refine (isTolerance_c _ _).mono ?_; rintro e w' ⟨rfl, rfl⟩) | (go_at_call 67; refine (allWithin_c _ _ _ _ _ _ H.out hl).mono ?_; rintro e w' ⟨rfl, rfl⟩))
      go_ret2
      exact ⟨ret_bi HE.out.1.symm HE.out.2.symm, Upd.refl w⟩
theorem IntsAt.one (w : World) (x : Int) : IntsAt (w.alloc (.cells #[.int .i64 x] 2)) (some ⟨w.heap.size, 0, none⟩) [x] :=
  .inr ⟨w.heap.size, 0, rfl, fun k y hy => by
    have hk := get_lt hy
    obtain rfl : k = 0 := by simpa using hk
    simp at hy; subst hy; simp⟩

/-! ### DishAfter -/
def dishV (xs : List Int) : Int := if areB xs (-500) 500 4 10 then meanF xs else 0
def dishE (xs : List Int) : Int := if areB xs (-500) 500 4 10 then 0 else 1
theorem iDishAfter_c (a : Option Addr) (c : Nat) (xs : List Int) (w : World) (h : IntsAt w a xs) (hl : xs.length ≤ 1048576) :
    Calls Try.prog 43 #[.slice a xs.length c] w fun e w' => e = .returned (.tuple #[.int .i64 (dishV xs), .int .i64 (dishE xs)]) ∧ w = w' := by
  have H := Lib.hid h; clear h
  cases h1 : areB xs (-500) 500 4 10
  · have HE : Hid (dishV xs = 0 ∧ dishE xs = 1) := by constructor <;> simp [dishV, dishE, h1]
    go_enter Try.func43, Try.ntmps43
    go_wp2_with (go_at_call 45; refine (iAreDeviations_c _ _ _ _ H.out hl).mono ?_; rintro e w' ⟨rfl, rfl⟩)
    go_ret2
    exact ⟨ret_int2 HE.out.1.symm HE.out.2.symm, rfl⟩
  · have HE : Hid (dishV xs = meanF xs ∧ dishE xs = 0) := by constructor <;> simp [dishV, dishE, h1]
    obtain ⟨hb, hn1, hn2⟩ := dev_bd h1
    have HB : Hid (∀ x, x ∈ xs → -1000000 ≤ x ∧ x ≤ 1000000) := fun x hx => by have := hb x hx; omega
    clear hb
    go_enter Try.func43, Try.ntmps43
    go_wp2_with (first | (go_at_call 45; refine (iAreDeviations_c _ _ _ _ H.out hl).mono ?_; rintro e w' ⟨rfl, rfl⟩) | (go_at_call 79; refine (meanOf_c _ _ _ _ H.out (by omega) HB.out).mono ?_; rintro e w' ⟨rfl, rfl⟩))
    go_ret2
    exact ⟨ret_int2 HE.out.1.symm HE.out.2.symm, rfl⟩
theorem sDishAfter_c (a : Option Addr) (c : Nat) (xs : List Int) (w : World) (h : IntsAt w a xs) (hl : xs.length ≤ 1048576) :
    Calls Try.prog 44 #[.slice a xs.length c] w fun e w' => e = .returned (.tuple #[.int .i64 (dishV xs), .int .i64 (dishE xs)]) ∧ w = w' := by
  have H := Lib.hid h; clear h
  cases h1 : areB xs (-500) 500 4 10
  · have HE : Hid (dishV xs = 0 ∧ dishE xs = 1) := by constructor <;> simp [dishV, dishE, h1]
    go_enter Try.func44, Try.ntmps44
    go_wp2_with (go_at_call 71; refine (sAreDeviations_c _ _ _ _ H.out hl).mono ?_; rintro e w' ⟨rfl, rfl⟩)
    go_ret2
    exact ⟨ret_int2 HE.out.1.symm HE.out.2.symm, rfl⟩
  · have HE : Hid (dishV xs = nearF (isum xs) xs.length ∧ dishE xs = 0) := by constructor <;> simp [dishV, dishE, meanF, h1]
    obtain ⟨hb, hn1, hn2⟩ := dev_bd h1
    have hs := isum_bd 500 xs hb
    have HB : Hid (∀ x, x ∈ xs → -1000000 ≤ x ∧ x ≤ 1000000) := fun x hx => by have := hb x hx; omega
    clear hb
    go_enter Try.func44, Try.ntmps44
    go_wp2_with (first | (go_at_call 71; refine (sAreDeviations_c _ _ _ _ H.out hl).mono ?_; rintro e w' ⟨rfl, rfl⟩) | (go_at_call 81; refine (l01Sum_c _ _ _ _ H.out hl HB.out).mono ?_; rintro e w' ⟨rfl, rfl⟩) | (go_at_call 80; refine (l01Nearest_c _ _ _ (by omega) (by omega)).mono ?_; rintro e w' ⟨rfl, rfl⟩))
    go_ret2
    exact ⟨ret_int2 HE.out.1.symm HE.out.2.symm, rfl⟩

/-! ### UndoPlan -/
def neg (xs : List Int) : List Int := xs.map (- ·)
theorem neg_length (xs : List Int) : (neg xs).length = xs.length := by simp [neg]
theorem neg_step {xs : List Int} {k : Nat} {x : Int} (h : xs[k]? = some x) : neg (xs.take (k + 1)) = neg (xs.take k) ++ [-x] := by rw [take_step h]; simp [neg]
theorem neg_take_length (xs : List Int) (k : Nat) : (neg (xs.take k)).length ≤ xs.length := by rw [neg_length]; exact List.length_take_le' k xs
def undoB (xs : List Int) : Bool := inB xs.length 0 10 && allB xs (-100) 100
def undoL (xs : List Int) : List Int := if undoB xs then neg xs else []
def undoE (xs : List Int) : Int := if undoB xs then 0 else 2
set_option maxRecDepth 20000 in
set_option maxHeartbeats 400000 in
theorem iUndoPlan_c (a : Option Addr) (c : Nat) (xs : List Int) (w : World) (h : IntsAt w a xs) (hl : xs.length ≤ 1048576) :
    Calls Try.prog 30 #[.slice a xs.length c] w (NewIC w (undoL xs) (undoE xs)) := by
  have H := Lib.hid h; clear h
  by_cases h1 : (xs.length : Int) ≤ 10
  · cases h2 : allB xs (-100) 100
    · have HE : Hid (undoL xs = [] ∧ undoE xs = 2) := by constructor <;> simp [undoL, undoE, undoB, h2]
      go_enter Try.func30, Try.ntmps30
      go_wp2_with (go_at_call 67; refine (allWithin_c _ _ _ _ _ _ H.out hl).mono ?_; rintro e w' ⟨rfl, rfl⟩)
      go_ret2
      rw [HE.out.1, HE.out.2]
      exact ⟨_, rfl, OwnI.nil _ _, Upd.refl w⟩
    · have HE : Hid (undoL xs = neg xs ∧ undoE xs = 0) := by constructor <;> simp [undoL, undoE, undoB, h2, inB_mk (n := xs.length) (a := 0) (b := 10) ⟨by omega, h1⟩]
      have HB := Lib.hid (allB_t h2)
      go_enter Try.func30, Try.ntmps30
      go_wp2_with (go_at_call 67; refine (allWithin_c _ _ _ _ _ _ H.out hl).mono ?_; rintro e w' ⟨rfl, rfl⟩)
      go_loopw [4, 17] (fun v i wr => ∃ k : Nat, k ≤ xs.length ∧ i = .int .i64 k ∧ Hid (OwnI wr w.heap.size v (neg (xs.take k))) ∧ Hid (Upd [] w wr)) (fun _ i _ => xs.length - (intOf i).toNat)
      case atStart => exact ⟨0, by omega, rfl, OwnI.nil _ _, Upd.refl w⟩
      case round =>
        obtain ⟨k, hk, rfl, HO, HU⟩ := hrel
        by_cases hlt : k < xs.length
        · obtain ⟨b, off, x, rfl, hc, hx⟩ := (H.out.kept0 HU.out).get hlt
          have hx1 := HB.out x (mem_of_get hx.out)
          have HL := neg_take_length xs k
          have HN := Lib.hid (neg_step hx.out)
          go_wp2_with (at_builtin; refine wpList_appI rfl _ _ rfl _ _ _ rfl rfl HO.out HU.out (by omega) ?_; intro v' w1 h1 h2; have H1 := Lib.hid h1; have H2 := Lib.hid h2; clear h1 h2)
          go_roundw
          case rel => exact ⟨k + 1, by omega, by go_num, by rw [HN.out]; exact H1, H2⟩
          case measure => simp [intOf]; omega
        · obtain rfl : k = xs.length := by omega
          have HO2 : Hid (OwnI wr w.heap.size u4 (neg xs)) := by have := HO.out; rwa [List.take_length] at this
          clear HO
          go_wp2
          go_ret2
          rw [HE.out.1, HE.out.2]
          exact ⟨_, rfl, HO2.out, HU.out⟩
  · have HE : Hid (undoL xs = [] ∧ undoE xs = 2) := by constructor <;> simp [undoL, undoE, undoB, inB_mkf (n := xs.length) (a := 0) (b := 10) (by omega)]
    go_enter Try.func30, Try.ntmps30
    go_wp2_with fail
    go_ret2
    rw [HE.out.1, HE.out.2]
    exact ⟨_, rfl, OwnI.nil _ _, Upd.refl w⟩
set_option maxRecDepth 20000 in
set_option maxHeartbeats 400000 in
theorem sUndoPlan_c (a : Option Addr) (c : Nat) (xs : List Int) (w : World) (h : IntsAt w a xs) (hl : xs.length ≤ 1048576) :
    Calls Try.prog 31 #[.slice a xs.length c] w (NewIC w (undoL xs) (undoE xs)) := by
  have H := Lib.hid h; clear h
  by_cases h1 : (xs.length : Int) ≤ 10
  · cases h2 : allB xs (-100) 100
    · have HE : Hid (undoL xs = [] ∧ undoE xs = 2) := by constructor <;> simp [undoL, undoE, undoB, h2]
      go_enter Try.func31, Try.ntmps31
      go_wp2_with (go_at_call 69; refine (l08Plan_c _ _ _ _ H.out hl).mono ?_; rintro e w' ⟨rfl, rfl⟩)
      go_ret2
      rw [HE.out.1, HE.out.2]
      exact ⟨_, rfl, OwnI.nil _ _, Upd.refl w⟩
    · have HE : Hid (undoL xs = neg xs ∧ undoE xs = 0) := by constructor <;> simp [undoL, undoE, undoB, h2, inB_mk (n := xs.length) (a := 0) (b := 10) ⟨by omega, h1⟩]
      have HB := Lib.hid (allB_t h2)
      go_enter Try.func31, Try.ntmps31
      go_wp2_with (go_at_call 69; refine (l08Plan_c _ _ _ _ H.out hl).mono ?_; rintro e w' ⟨rfl, rfl⟩)
      go_loopw [4, 5] (fun v i wr => ∃ k : Nat, k ≤ xs.length ∧ i = .int .i64 k ∧ Hid (OwnI wr w.heap.size v (neg (xs.take k))) ∧ Hid (Upd [] w wr)) (fun _ i _ => xs.length - (intOf i).toNat)
      case atStart => exact ⟨0, by omega, rfl, OwnI.lit (Upd.refl w), (Upd.refl w).alloc _⟩
      case round =>
        obtain ⟨k, hk, rfl, HO, HU⟩ := hrel
        by_cases hlt : k < xs.length
        · obtain ⟨b, off, x, rfl, hc, hx⟩ := (H.out.kept0 HU.out).get hlt
          have hx1 := HB.out x (mem_of_get hx.out)
          have HL := neg_take_length xs k
          have HN := Lib.hid (neg_step hx.out)
          go_wp2_with (at_builtin; refine wpList_appI rfl _ _ rfl _ _ _ rfl rfl HO.out HU.out (by omega) ?_; intro v' w1 h1 h2; have H1 := Lib.hid h1; have H2 := Lib.hid h2; clear h1 h2)
          go_roundw
          case rel => exact ⟨k + 1, by omega, by go_num, by rw [HN.out]; exact H1, H2⟩
          case measure => simp [intOf]; omega
        · obtain rfl : k = xs.length := by omega
          have HO2 : Hid (OwnI wr w.heap.size u4 (neg xs)) := by have := HO.out; rwa [List.take_length] at this
          clear HO
          go_wp2
          go_ret2
          rw [HE.out.1, HE.out.2]
          exact ⟨_, rfl, HO2.out, HU.out⟩
  · have HE : Hid (undoL xs = [] ∧ undoE xs = 2) := by constructor <;> simp [undoL, undoE, undoB, inB_mkf (n := xs.length) (a := 0) (b := 10) (by omega)]
    go_enter Try.func31, Try.ntmps31
    go_wp2_with fail
    go_ret2
    rw [HE.out.1, HE.out.2]
    exact ⟨_, rfl, OwnI.nil _ _, Upd.refl w⟩

/-! ### WorstPlace -/
def worstTo (xs : List Int) : Nat → Nat
  | 0 => 0
  | k + 1 => if iabs (xs.getD (worstTo xs k) 0) < iabs (xs.getD k 0) then k else worstTo xs k
theorem worstTo_lt (xs : List Int) (k : Nat) (h : 0 < xs.length) (hk : k ≤ xs.length) : worstTo xs k < xs.length := by
  induction k with
  | zero => exact h
  | succ k ih => rw [worstTo]; split; omega; exact ih (by omega)
def worstV (xs : List Int) : Int := if areB xs (-500) 500 4 10 then (worstTo xs xs.length : Int) else 0
def worstE (xs : List Int) : Int := if areB xs (-500) 500 4 10 then 0 else 1
set_option maxRecDepth 20000 in
set_option maxHeartbeats 400000 in
theorem iWorstPlace_c (a : Option Addr) (c : Nat) (xs : List Int) (w : World) (h : IntsAt w a xs) (hl : xs.length ≤ 1048576) :
    Calls Try.prog 41 #[.slice a xs.length c] w fun e w' => e = .returned (.tuple #[.int .i64 (worstV xs), .int .i64 (worstE xs)]) ∧ Upd [] w w' := by
  have H := Lib.hid h; clear h
  cases h1 : areB xs (-500) 500 4 10
  · have HE : Hid (worstV xs = 0 ∧ worstE xs = 1) := by constructor <;> simp [worstV, worstE, h1]
    go_enter Try.func41, Try.ntmps41
    go_wp2_with (go_at_call 45; refine (iAreDeviations_c _ _ _ _ H.out hl).mono ?_; rintro e w' ⟨rfl, rfl⟩)
    go_ret2
    exact ⟨ret_int2 HE.out.1.symm HE.out.2.symm, Upd.refl w⟩
  · have HE : Hid (worstV xs = (worstTo xs xs.length : Int) ∧ worstE xs = 0) := by constructor <;> simp [worstV, worstE, h1]
    obtain ⟨hb, hn1, hn2⟩ := dev_bd h1
    have HB := Lib.hid hb; clear hb
    go_enter Try.func41, Try.ntmps41
    go_wp2_with (go_at_call 45; refine (iAreDeviations_c _ _ _ _ H.out hl).mono ?_; rintro e w' ⟨rfl, rfl⟩)
    go_loopw [4, 12] (fun v i wr => ∃ k b : Nat, k ≤ xs.length ∧ i = .int .i64 k ∧ v = .int .i64 b ∧ Hid (worstTo xs k = b) ∧ Hid (Upd [] w wr)) (fun _ i _ => xs.length - (intOf i).toNat)
    case atStart => exact ⟨0, 0, by omega, rfl, rfl, rfl, Upd.refl w⟩
    case round =>
      obtain ⟨k, b, hk, rfl, rfl, HW, HU⟩ := hrel
      have hbl : b < xs.length := by rw [← HW.out]; exact worstTo_lt xs k (by omega) hk
      by_cases hlt : k < xs.length
      · obtain ⟨bb, off, x, rfl, hc, hx⟩ := (H.out.kept0 HU.out).get hlt
        obtain ⟨bb', off', y, e, hc2, hy⟩ := (H.out.kept0 HU.out).get hbl
        cases e
        have hx1 := HB.out x (mem_of_get hx.out)
        have hy1 := HB.out y (mem_of_get hy.out)
        have gx : xs.getD k 0 = x := by rw [List.getD_eq_getElem?_getD, hx.out]; rfl
        have gy : xs.getD b 0 = y := by rw [List.getD_eq_getElem?_getD, hy.out]; rfl
        have ax := iabs_le hx1
        have ay := iabs_le hy1
        have i1 : (0 : Int) ≤ (k : Int) := by omega
        have i2 : (k : Int) < (xs.length : Int) := by omega
        have i3 : (b : Int) < (xs.length : Int) := by omega
        have KA : Hid (∀ (z : Int) (w1 : World), (z = x ∨ z = y) → Calls Try.prog 77 #[.int .i64 z] w1 fun e w' => e = .returned (.int .i64 (iabs z)) ∧ w1 = w') :=
          fun z w1 hz => abs_c z w1 (by rcases hz with rfl | rfl <;> omega)
        by_cases hp : iabs y < iabs x
        · have HN : Hid (worstTo xs (k + 1) = k) := by show worstTo _ _ = _; rw [worstTo, HW.out, gx, gy, if_pos hp]
          clear gx gy
          go_wp2
          go_quiet ((go_at_call 77; exact quiet0 (KA.out _ _ (by first | exact .inl rfl | exact .inr rfl))))
          go_wp2
          go_roundw
          case rel => exact ⟨k + 1, k, by omega, congrArg (Value.int .i64) (by omega), rfl, HN, (HU.out).drewN _⟩
          case measure => simp [intOf]; omega
        · have HN : Hid (worstTo xs (k + 1) = b) := by show worstTo _ _ = _; rw [worstTo, HW.out, gx, gy, if_neg hp]
          have hd : decide (iabs y < iabs x) = false := by simpa using hp
          clear gx gy
          go_wp2
          go_quiet ((go_at_call 77; exact quiet0 (KA.out _ _ (by first | exact .inl rfl | exact .inr rfl))))
          go_wp2
          go_roundw
          case rel => exact ⟨k + 1, b, by omega, congrArg (Value.int .i64) (by omega), rfl, HN, (HU.out).drewN _⟩
          case measure => simp [intOf]; omega
      · obtain rfl : k = xs.length := by omega
        go_wp2
        go_ret2
        exact ⟨ret_int2 (by rw [HE.out.1, HW.out]) HE.out.2.symm, HU.out⟩
set_option maxRecDepth 20000 in
set_option maxHeartbeats 400000 in
theorem sWorstPlace_c (a : Option Addr) (c : Nat) (xs : List Int) (w : World) (h : IntsAt w a xs) (hl : xs.length ≤ 1048576) :
    Calls Try.prog 42 #[.slice a xs.length c] w fun e w' => e = .returned (.tuple #[.int .i64 (worstV xs), .int .i64 (worstE xs)]) ∧ Upd [] w w' := by
  have H := Lib.hid h; clear h
  cases h1 : areB xs (-500) 500 4 10
  · have HE : Hid (worstV xs = 0 ∧ worstE xs = 1) := by constructor <;> simp [worstV, worstE, h1]
    go_enter Try.func42, Try.ntmps42
    go_wp2_with (go_at_call 71; refine (sAreDeviations_c _ _ _ _ H.out hl).mono ?_; rintro e w' ⟨rfl, rfl⟩)
    go_ret2
    exact ⟨ret_int2 HE.out.1.symm HE.out.2.symm, Upd.refl w⟩
  · have HE : Hid (worstV xs = (worstTo xs xs.length : Int) ∧ worstE xs = 0) := by constructor <;> simp [worstV, worstE, h1]
    obtain ⟨hb, hn1, hn2⟩ := dev_bd h1
    have HB := Lib.hid hb; clear hb
    go_enter Try.func42, Try.ntmps42
    go_wp2_with (go_at_call 71; refine (sAreDeviations_c _ _ _ _ H.out hl).mono ?_; rintro e w' ⟨rfl, rfl⟩)
    go_loopw [4, 5] (fun v i wr => ∃ k b : Nat, k ≤ xs.length ∧ i = .int .i64 k ∧ v = .int .i64 b ∧ Hid (worstTo xs k = b) ∧ Hid (Upd [] w wr)) (fun _ i _ => xs.length - (intOf i).toNat)
    case atStart => exact ⟨0, 0, by omega, rfl, rfl, rfl, Upd.refl w⟩
    case round =>
      obtain ⟨k, b, hk, rfl, rfl, HW, HU⟩ := hrel
      have hbl : b < xs.length := by rw [← HW.out]; exact worstTo_lt xs k (by omega) hk
      by_cases hlt : k < xs.length
      · obtain ⟨bb, off, x, rfl, hc, hx⟩ := (H.out.kept0 HU.out).get hlt
        obtain ⟨bb', off', y, e, hc2, hy⟩ := (H.out.kept0 HU.out).get hbl
        cases e
        have hx1 := HB.out x (mem_of_get hx.out)
        have hy1 := HB.out y (mem_of_get hy.out)
        have gx : xs.getD k 0 = x := by rw [List.getD_eq_getElem?_getD, hx.out]; rfl
        have gy : xs.getD b 0 = y := by rw [List.getD_eq_getElem?_getD, hy.out]; rfl
        have ax := iabs_le hx1
        have ay := iabs_le hy1
        have i1 : (0 : Int) ≤ (k : Int) := by omega
        have i2 : (k : Int) < (xs.length : Int) := by omega
        have i3 : (b : Int) < (xs.length : Int) := by omega
        have KA : Hid (∀ (z : Int) (w1 : World), (z = x ∨ z = y) → Calls Try.prog 78 #[.int .i64 z] w1 fun e w' => e = .returned (.int .i64 (iabs z)) ∧ w1 = w') :=
          fun z w1 hz => l01Abs_c z w1 (by rcases hz with rfl | rfl <;> omega)
        by_cases hp : iabs y < iabs x
        · have HN : Hid (worstTo xs (k + 1) = k) := by show worstTo _ _ = _; rw [worstTo, HW.out, gx, gy, if_pos hp]
          clear gx gy
          go_wp2
          go_quiet ((go_at_call 78; exact quiet0 (KA.out _ _ (by first | exact .inl rfl | exact .inr rfl))))
          go_wp2
          go_roundw
          case rel => exact ⟨k + 1, k, by omega, congrArg (Value.int .i64) (by omega), rfl, HN, (HU.out).drewN _⟩
          case measure => simp [intOf]; omega
        · have HN : Hid (worstTo xs (k + 1) = b) := by show worstTo _ _ = _; rw [worstTo, HW.out, gx, gy, if_neg hp]
          have hd : decide (iabs y < iabs x) = false := by simpa using hp
          clear gx gy
          go_wp2
          go_quiet ((go_at_call 78; exact quiet0 (KA.out _ _ (by first | exact .inl rfl | exact .inr rfl))))
          go_wp2
          go_roundw
          case rel => exact ⟨k + 1, b, by omega, congrArg (Value.int .i64) (by omega), rfl, HN, (HU.out).drewN _⟩
          case measure => simp [intOf]; omega
      · obtain rfl : k = xs.length := by omega
        go_wp2
        go_ret2
        exact ⟨ret_int2 (by rw [HE.out.1, HW.out]) HE.out.2.symm, HU.out⟩
end Go.Proofs.Ytiiljmaianfdeaa
