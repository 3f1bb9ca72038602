/- The contracts of chapter 6: exchanged spokes. -/
import Derived.Test.YtiiljmaianfdeaaLac3
import Derived.BigRegion
namespace Go.Proofs.Ytiiljmaianfdeaa
open Go.RowKit
set_option linter.unusedVariables false
set_option linter.unusedSimpArgs false

def swpF (xs : List Int) (k l : Nat) : List Int := (xs.set k (xs.getD l 0)).set l (xs.getD k 0)
theorem swpF_length (xs : List Int) (k l : Nat) : (swpF xs k l).length = xs.length := by simp [swpF]
def swpB (n k l : Int) : Bool := inB k 0 (n - 1) && inB l 0 (n - 1)
def swpL (n : Int) (xs : List Int) (k l : Int) : List Int := if lacB n xs && swpB n k l then swpF xs k.toNat l.toNat else []
def swpE (n : Int) (xs : List Int) (k l : Int) : Int := if lacB n xs then (if swpB n k l then 0 else 2) else 1
set_option maxHeartbeats 1600000 in
theorem iSwapSpokes_c (n : Int) (a : Option Addr) (c : Nat) (xs : List Int) (k l : Int) (w : World) (h : IntsAt w a xs) (hl : xs.length ≤ 1048576) :
    Calls Try.prog 17 #[.int .i64 n, .slice a xs.length c, .int .i64 k, .int .i64 l] w (NewIC w (swpL n xs k l) (swpE n xs k l)) := by
  have H := Lib.hid h; clear h
  cases h1 : lacB n xs
  · have HE : Hid (swpL n xs k l = [] ∧ swpE n xs k l = 1) := by constructor <;> simp [swpL, swpE, h1]
    go_enter Try.func17, Try.ntmps17
    go_wp2_with (go_at_call 20; refine (iIsLacing_c _ _ _ _ _ H.out hl).mono ?_; rintro e w1 ⟨rfl, hU⟩; have HU0 := Lib.hid hU; clear hU)
    go_ret2
    rw [HE.out.1, HE.out.2]
    exact ⟨_, rfl, OwnI.nil _ _, HU0.out⟩
  · obtain ⟨hn, hb, hx⟩ := lac_bd h1
    subst hn
    cases h2 : inB k 0 ((xs.length : Int) - 1)
    · have HE : Hid (swpL xs.length xs k l = [] ∧ swpE xs.length xs k l = 2) := by constructor <;> simp [swpL, swpE, swpB, h1, h2]
      clear hx
      go_enter Try.func17, Try.ntmps17
      go_wp2_with (first | (go_at_call 20; refine (iIsLacing_c _ _ _ _ _ H.out hl).mono ?_; rintro e w1 ⟨rfl, hU⟩; have HU0 := Lib.hid hU; clear hU) | (go_at_call 51; refine (within_c _ _ _ _).mono ?_; rintro e w' ⟨rfl, rfl⟩))
      go_ret2
      rw [HE.out.1, HE.out.2]
      exact ⟨_, rfl, OwnI.nil _ _, HU0.out⟩
    · cases h3 : inB l 0 ((xs.length : Int) - 1)
      · have HE : Hid (swpL xs.length xs k l = [] ∧ swpE xs.length xs k l = 2) := by constructor <;> simp [swpL, swpE, swpB, h1, h2, h3]
        clear hx
        go_enter Try.func17, Try.ntmps17
        go_wp2_with (first | (go_at_call 20; refine (iIsLacing_c _ _ _ _ _ H.out hl).mono ?_; rintro e w1 ⟨rfl, hU⟩; have HU0 := Lib.hid hU; clear hU) | (go_at_call 51; refine (within_c _ _ _ _).mono ?_; rintro e w' ⟨rfl, rfl⟩))
        go_ret2
        rw [HE.out.1, HE.out.2]
        exact ⟨_, rfl, OwnI.nil _ _, HU0.out⟩
      · have hk := inB_t h2
        have hl' := inB_t h3
        obtain ⟨i, rfl⟩ := Int.eq_ofNat_of_zero_le hk.1
        obtain ⟨j, rfl⟩ := Int.eq_ofNat_of_zero_le hl'.1
        have hi : i < xs.length := by omega
        have hj : j < xs.length := by omega
        have HE : Hid (swpL xs.length xs (i : Int) (j : Int) = swpF xs i j ∧ swpE xs.length xs (i : Int) (j : Int) = 0) := by
          constructor <;> simp [swpL, swpE, swpB, h1, h2, h3]
        obtain ⟨bb, off, x, rfl, hcx, hxi⟩ := H.out.get hi
        obtain ⟨bb', off', y, e', hcy, hyj⟩ := H.out.get hj
        cases e'
        have hbb := World.block_lt_of_cell? w _ hcx
        have HC := Lib.hid (show _ ∧ _ from ⟨hcx, hcy⟩)
        clear hx hcx hcy
        go_enter Try.func17, Try.ntmps17
        go_wp2_with (first | (go_at_call 20; refine (iIsLacing_c _ _ _ _ _ H.out hl).mono ?_; rintro e w1 ⟨rfl, hU⟩; have HU0 := Lib.hid hU; clear hU) | (go_at_call 51; refine (within_c _ _ _ _).mono ?_; rintro e w' ⟨rfl, rfl⟩))
        refine (copyList_c _ _ _ _ (H.out.kept0 HU0.out) hl).mono ?_
        rintro e w2 ⟨v, rfl, hO, hU⟩
        obtain ⟨g, cap, rfl, hg1, hg2⟩ := hO.row (by omega)
        have hg3 : w.heap.size ≤ g := by have := (HU0.out).size; omega
        have hne : bb ≠ g := by intro e; rw [e] at hbb; exact absurd hbb (by show ¬ g < w.heap.size; omega)
        have HU2 := Lib.hid (HU0.out.then0 hU)
        have HO := Lib.hid (hO.mono (HU0.out).size)
        have hcx := HU2.out.cell HC.out.1 (by simp)
        have hcy := HU2.out.cell HC.out.2 (by simp)
        have hgi := HO.out.cell hxi.out
        have hgj := HO.out.cell hyj.out
        have hfi := HO.out.free i
        have hfj := HO.out.free j
        have HO1 := HO.out.set i y hi
        obtain ⟨u, hu⟩ : ∃ u, (xs.set i y)[j]? = some u := ⟨_, List.getElem?_eq_getElem (by simp; exact hj)⟩
        have hgj2 := HO1.cell hu
        have HO2 := Lib.hid (HO1.set j x (by simp; exact hj))
        have HU3 : Hid (Upd [] w ((w2.setCell ⟨g, i, none⟩ (.int .i64 y)).setCell ⟨g, j, none⟩ (.int .i64 x))) := ((HU2.out).setCell _ (.inr hg3)).setCell _ (.inr hg3)
        have HS : Hid (swpF xs i j = (xs.set i y).set j x) := by show swpF _ _ _ = _; rw [swpF, getD_of hxi.out, getD_of hyj.out]
        clear hO hU hu HO1
        have i1 : (i : Int) < (xs.length : Int) := by omega
        have i2 : (j : Int) < (xs.length : Int) := by omega
        go_wp2
        go_region
        all_goals go_wp2
        all_goals go_ret2
        all_goals rw [HE.out.1, HE.out.2, HS.out]
        all_goals exact ⟨_, rfl, HO2.out.kept0 (Upd.refl _).drew, (HU3.out).drew⟩
set_option maxHeartbeats 1600000 in
theorem sSwapSpokes_c (n : Int) (a : Option Addr) (c : Nat) (xs : List Int) (k l : Int) (w : World) (h : IntsAt w a xs) (hl : xs.length ≤ 1048576) (hcap : xs.length ≤ c) :
    Calls Try.prog 18 #[.int .i64 n, .slice a xs.length c, .int .i64 k, .int .i64 l] w (NewIC w (swpL n xs k l) (swpE n xs k l)) := by
  have H := Lib.hid h; clear h
  have e1 : ∀ p, lacB n xs = false → codeL n xs p = 1 := fun p h => by simp [codeL, h]
  have e2 : ∀ p, lacB n xs = true → inB p 0 (n - 1) = false → codeL n xs p = 2 := fun p h h' => by simp [codeL, h, h']
  have e3 : ∀ p, lacB n xs = true → inB p 0 (n - 1) = true → codeL n xs p = 0 := fun p h h' => by simp [codeL, h, h']
  cases h1 : lacB n xs
  · have HE : Hid (swpL n xs k l = [] ∧ swpE n xs k l = 1) := by constructor <;> simp [swpL, swpE, h1]
    have hc := e1 k h1
    clear e1 e2 e3
    go_enter Try.func18, Try.ntmps18
    go_wp2_with (go_at_call 53; refine (l06Code_c _ _ _ _ _ _ H.out hl hcap).mono ?_; rintro e w1 ⟨rfl, hU⟩; have HU0 := Lib.hid hU; clear hU)
    go_ret2
    rw [HE.out.1, HE.out.2]
    exact ⟨_, rfl, OwnI.nil _ _, HU0.out⟩
  · cases h2 : inB k 0 (n - 1)
    · have HE : Hid (swpL n xs k l = [] ∧ swpE n xs k l = 2) := by constructor <;> simp [swpL, swpE, swpB, h1, h2]
      have hc := e2 k h1 h2
      clear e1 e2 e3
      go_enter Try.func18, Try.ntmps18
      go_wp2_with (go_at_call 53; refine (l06Code_c _ _ _ _ _ _ H.out hl hcap).mono ?_; rintro e w1 ⟨rfl, hU⟩; have HU0 := Lib.hid hU; clear hU)
      go_ret2
      rw [HE.out.1, HE.out.2]
      exact ⟨_, rfl, OwnI.nil _ _, HU0.out⟩
    · have hc1 := e3 k h1 h2
      cases h3 : inB l 0 (n - 1)
      · have HE : Hid (swpL n xs k l = [] ∧ swpE n xs k l = 2) := by constructor <;> simp [swpL, swpE, swpB, h1, h2, h3]
        have hc2 := e2 l h1 h3
        clear e1 e2 e3
        go_enter Try.func18, Try.ntmps18
        go_wp2_with fail
        refine (l06Code_c _ _ _ _ _ _ H.out hl hcap).mono ?_
        rintro e w1 ⟨rfl, hU⟩
        have HU0 := Lib.hid hU
        clear hU
        go_wp2_with fail
        refine (l06Code_c _ _ _ _ _ _ (H.out.kept0 HU0.out) hl hcap).mono ?_
        rintro e w2 ⟨rfl, hU⟩
        have HU1 := Lib.hid (HU0.out.then0 hU)
        clear hU
        go_wp2_with fail
        go_ret2
        rw [HE.out.1, HE.out.2]
        exact ⟨_, rfl, OwnI.nil _ _, HU1.out⟩
      · have hc2 := e3 l h1 h3
        clear e1 e2 e3
        obtain ⟨hn, hb, hx⟩ := lac_bd h1
        subst hn
        have hk := inB_t h2
        have hl' := inB_t h3
        obtain ⟨i, rfl⟩ := Int.eq_ofNat_of_zero_le hk.1
        obtain ⟨j, rfl⟩ := Int.eq_ofNat_of_zero_le hl'.1
        have hi : i < xs.length := by omega
        have hj : j < xs.length := by omega
        have HE : Hid (swpL xs.length xs (i : Int) (j : Int) = swpF xs i j ∧ swpE xs.length xs (i : Int) (j : Int) = 0) := by
          constructor <;> simp [swpL, swpE, swpB, h1, h2, h3]
        obtain ⟨bb, off, x, rfl, hcx, hxi⟩ := H.out.get hi
        obtain ⟨bb', off', y, e', hcy, hyj⟩ := H.out.get hj
        cases e'
        have hbb := World.block_lt_of_cell? w _ hcx
        have HC := Lib.hid (show _ ∧ _ from ⟨hcx, hcy⟩)
        clear hx hcx hcy
        go_enter Try.func18, Try.ntmps18
        go_wp2_with fail
        refine (l06Code_c _ _ _ _ _ _ H.out hl hcap).mono ?_
        rintro e w0 ⟨rfl, hU⟩
        have HU0 := Lib.hid hU
        clear hU
        go_wp2_with fail
        refine (l06Code_c _ _ _ _ _ _ (H.out.kept0 HU0.out) hl hcap).mono ?_
        rintro e w1 ⟨rfl, hU⟩
        have HU1 := Lib.hid (HU0.out.then0 hU)
        clear hU
        go_wp2_with fail
        refine (l01Own_c _ _ _ _ (H.out.kept0 HU1.out) hl).mono ?_
        rintro e w2 ⟨v, rfl, hO, hU⟩
        obtain ⟨g, cap, rfl, hg1, hg2⟩ := hO.row (by omega)
        have hg3 : w.heap.size ≤ g := by have := (HU1.out).size; omega
        have hne : bb ≠ g := by intro e; rw [e] at hbb; exact absurd hbb (by show ¬ g < w.heap.size; omega)
        have HU2 := Lib.hid (HU1.out.then0 hU)
        have HO := Lib.hid (hO.mono (HU1.out).size)
        have hcx := HU2.out.cell HC.out.1 (by simp)
        have hcy := HU2.out.cell HC.out.2 (by simp)
        have hgi := HO.out.cell hxi.out
        have hfi := HO.out.free i
        have hfj := HO.out.free j
        have HO1 := HO.out.set i y hi
        obtain ⟨u, hu⟩ : ∃ u, (xs.set i y)[j]? = some u := ⟨_, List.getElem?_eq_getElem (by simp; exact hj)⟩
        have hgj2 := HO1.cell hu
        have HO2 := Lib.hid (HO1.set j x (by simp; exact hj))
        have HU3 : Hid (Upd [] w ((w2.setCell ⟨g, i, none⟩ (.int .i64 y)).setCell ⟨g, j, none⟩ (.int .i64 x))) := ((HU2.out).setCell _ (.inr hg3)).setCell _ (.inr hg3)
        have HS : Hid (swpF xs i j = (xs.set i y).set j x) := by show swpF _ _ _ = _; rw [swpF, getD_of hxi.out, getD_of hyj.out]
        clear hO hU hu HO1
        have i1 : (i : Int) < (xs.length : Int) := by omega
        have i2 : (j : Int) < (xs.length : Int) := by omega
        go_wp2
        go_ret2
        rw [HE.out.1, HE.out.2, HS.out]
        exact ⟨_, rfl, HO2.out, HU3.out⟩
end Go.Proofs.Ytiiljmaianfdeaa
