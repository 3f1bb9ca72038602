/- The contracts of chapter 6: mirrored lacings. -/
import Derived.Test.YtdjdddepplaagaaLac3
namespace Go.Proofs.Ytdjdddepplaagaa
open Go.RowKit
set_option linter.unusedVariables false
set_option linter.unusedSimpArgs false

def mirV (xs : List Int) (k : Nat) : Int := (-(xs.getD k 0)) % xs.length
def mirTo (xs : List Int) : Nat → List Int
  | 0 => List.replicate xs.length 0
  | k + 1 => (mirTo xs k).set (pos (-(k : Int)) xs.length) (mirV xs k)
theorem mirTo_length (xs : List Int) (k : Nat) : (mirTo xs k).length = xs.length := by
  induction k with
  | zero => simp [mirTo]
  | succ k ih => simp [mirTo, ih]
def mirL (n : Int) (xs : List Int) : List Int := if lacB n xs then mirTo xs xs.length else []
theorem neg_mod (x n : Int) : (n - x) % n = (-x) % n := by rw [show n - x = -x + n by omega, Int.add_emod_right]
set_option maxRecDepth 10000 in
set_option maxHeartbeats 1600000 in
theorem iMirrorLacing_c (n : Int) (a : Option Addr) (c : Nat) (xs : List Int) (w : World) (h : IntsAt w a xs) (hl : xs.length ≤ 1048576) :
    Calls Try.prog 20 #[.int .i64 n, .slice a xs.length c] w (NewIC w (mirL n xs) (lacE n xs)) := by
  have H := Lib.hid h; clear h
  cases h1 : lacB n xs
  · have HE : Hid (mirL n xs = [] ∧ lacE n xs = 1) := by constructor <;> simp [mirL, lacE, h1]
    go_enter Try.func20, Try.ntmps20
    go_wp2_with (go_at_call 16; refine (iIsLacing_c _ _ _ _ _ H.out hl).mono ?_; rintro e w1 ⟨rfl, hU⟩; have HU0 := Lib.hid hU; clear hU)
    go_ret2
    rw [HE.out.1, HE.out.2]
    exact ⟨_, rfl, OwnI.nil _ _, HU0.out⟩
  · have HE : Hid (mirL n xs = mirTo xs xs.length ∧ lacE n xs = 0) := by constructor <;> simp [mirL, lacE, h1]
    obtain ⟨hn, hb, hx⟩ := lac_bd h1
    have HX := Lib.hid hx
    clear hx
    subst hn
    go_enter Try.func20, Try.ntmps20
    go_wp2_with (first | (go_at_call 16; refine (iIsLacing_c _ _ _ _ _ H.out hl).mono ?_; rintro e w1 ⟨rfl, hU⟩; have HU0 := Lib.hid hU; clear hU) | (at_make; refine wpList_mkI rfl _ _ rfl .i64 .i64 xs.length rfl rfl (by omega) HU0.out ?_; intro w2 h1 h2 h3; have HM := Lib.hid (show _ ∧ _ from ⟨h1, h2⟩); clear h1 h2 h3))
    clear h1
    obtain ⟨g, hg⟩ : ∃ g, w1.heap.size = g := ⟨_, rfl⟩
    have hg1 : w.heap.size ≤ g := by have := (HU0.out).size; omega
    rw [hg] at HM ⊢
    have HG := Lib.hid hg
    clear hg
    go_loopw [17] (fun i wr => ∃ k : Nat, k ≤ xs.length ∧ i = .int .i64 k ∧ Hid (OwnI wr w.heap.size (.slice (some ⟨g, 0, none⟩) xs.length xs.length) (mirTo xs k)) ∧ Hid (Upd [] w wr)) (fun i _ => xs.length - (intOf i).toNat)
    case atStart => exact ⟨0, by omega, rfl, HM.out.1, HM.out.2⟩
    case round =>
      clear HM HU0
      obtain ⟨k, hk, rfl, HO, HU⟩ := hrel
      by_cases hlt : k < xs.length
      · obtain ⟨bb, off, x, rfl, hc, hx⟩ := (H.out.kept0 HU.out).get hlt
        have hx1 := HX.out x (mem_of_get hx.out)
        obtain ⟨p, HP⟩ : ∃ p, Hid (pos (-(k : Int)) xs.length = p) := ⟨_, rfl⟩
        have hp : p < xs.length := by rw [← HP.out]; exact pos_lt _ (by omega)
        obtain ⟨z, hz⟩ : ∃ z : Nat, (-x) % (xs.length : Int) = z := ⟨_, pos_cast (-x) xs.length (by omega)⟩
        have HN : Hid (mirTo xs (k + 1) = (mirTo xs k).set p (z : Int)) := by show mirTo _ _ = _; rw [mirTo, HP.out, mirV, getD_of hx.out, hz]
        have hml := mirTo_length xs k
        obtain ⟨y, hy⟩ : ∃ y, (mirTo xs k)[p]? = some y := ⟨_, List.getElem?_eq_getElem (by omega)⟩
        have HY := Lib.hid (show _ ∧ _ from ⟨hy, hml⟩)
        clear hy hml
        have i1 : (p : Int) < (xs.length : Int) := by omega
        have i2 : (k : Int) < (xs.length : Int) := by omega
        have hw1 : IntKind.i64.wrap ((xs.length : Int) - k) = (xs.length : Int) - k := IntWalk.i64_in _ (by omega)
        have hw2 : IntKind.i64.wrap ((xs.length : Int) - x) = (xs.length : Int) - x := IntWalk.i64_in _ (by omega)
        have hw3 : ((xs.length : Int) - k).tmod xs.length = (p : Int) := by rw [Int.tmod_eq_emod_of_nonneg (by omega), neg_mod]; have := HP.out; have := pos_cast (-(k : Int)) xs.length (by omega); omega
        have hw4 : ((xs.length : Int) - x).tmod xs.length = (z : Int) := by rw [Int.tmod_eq_emod_of_nonneg (by omega), neg_mod]; exact hz
        have hnz : ¬ xs = [] := fun e => by rw [e] at hb; simp at hb
        have HZZ := Lib.hid hz
        clear hz
        go_wp2
        refine wp_region_still_tail 12 (by kernel_rfl) (by kernel_rfl) ?_
        simp only [List.take_succ_cons, List.take_zero, List.drop_succ_cons, List.drop_zero]
        repeat still_step
        refine wpStill_nil ?_
        clear hw1 hw2 hw3 hw4 hc
        change wpList _ _ _ _ _ wr.drew
        have HU2 : Hid (Upd [] w wr.drew) := (HU.out).drew
        have HO2 : Hid (OwnI wr.drew w.heap.size (.slice (some ⟨g, 0, none⟩) xs.length xs.length) (mirTo xs k)) := HO.out.kept0 (Upd.refl wr).drew
        generalize wr.drew = w3 at HU2 HO2 ⊢
        have hc1 := HO2.out.cell HY.out.1
        have hf1 := HO2.out.free p
        have HO3 := Lib.hid (HO2.out.set p (z : Int) (by rw [HY.out.2]; exact hp))
        have HU3 : Hid (Upd [] w (w3.setCell ⟨g, p, none⟩ (.int .i64 (z : Int)))) := (HU2.out).setCell _ (.inr hg1)
        go_wp2
        go_roundw
        case rel => exact ⟨k + 1, by omega, by go_num, by rw [HN.out]; exact HO3, HU3⟩
        case measure => simp [intOf]; omega
      · obtain rfl : k = xs.length := by omega
        go_wp2
        go_ret2
        rw [HE.out.1, HE.out.2]
        exact ⟨_, rfl, HO.out, HU.out⟩
set_option maxRecDepth 10000 in
set_option maxHeartbeats 1600000 in
theorem sMirrorLacing_c (n : Int) (a : Option Addr) (c : Nat) (xs : List Int) (w : World) (h : IntsAt w a xs) (hl : xs.length ≤ 1048576) (hcap : xs.length ≤ c) :
    Calls Try.prog 21 #[.int .i64 n, .slice a xs.length c] w (NewIC w (mirL n xs) (lacE n xs)) := by
  have H := Lib.hid h; clear h
  cases h1 : lacB n xs
  · have HE : Hid (mirL n xs = [] ∧ lacE n xs = 1) := by constructor <;> simp [mirL, lacE, h1]
    have hcode : codeL n xs 0 = 1 := by simp [codeL, h1]
    go_enter Try.func21, Try.ntmps21
    go_wp2_with (go_at_call 87; refine (l06Code_c _ _ _ _ _ _ H.out hl hcap).mono ?_; rintro e w1 ⟨rfl, hU⟩; have HU0 := Lib.hid hU; clear hU)
    go_ret2
    rw [HE.out.1, HE.out.2]
    exact ⟨_, rfl, OwnI.nil _ _, HU0.out⟩
  · have HE : Hid (mirL n xs = mirTo xs xs.length ∧ lacE n xs = 0) := by constructor <;> simp [mirL, lacE, h1]
    obtain ⟨hn, hb, hx⟩ := lac_bd h1
    have HX := Lib.hid hx
    clear hx
    subst hn
    have hcode : codeL xs.length xs 0 = 0 := by simp [codeL, h1, inB]; omega
    go_enter Try.func21, Try.ntmps21
    go_wp2_with (first | (go_at_call 87; refine (l06Code_c _ _ _ _ _ _ H.out hl hcap).mono ?_; rintro e w1 ⟨rfl, hU⟩; have HU0 := Lib.hid hU; clear hU) | (at_make; refine wpList_mkI rfl _ _ rfl .i64 .i64 xs.length rfl rfl (by omega) HU0.out ?_; intro w2 h1 h2 h3; have HM := Lib.hid (show _ ∧ _ from ⟨h1, h2⟩); clear h1 h2 h3))
    clear h1
    obtain ⟨g, hg⟩ : ∃ g, w1.heap.size = g := ⟨_, rfl⟩
    have hg1 : w.heap.size ≤ g := by have := (HU0.out).size; omega
    rw [hg] at HM ⊢
    have HG := Lib.hid hg
    clear hg
    go_loopw [8] (fun i wr => ∃ k : Nat, k ≤ xs.length ∧ i = .int .i64 k ∧ Hid (OwnI wr w.heap.size (.slice (some ⟨g, 0, none⟩) xs.length xs.length) (mirTo xs k)) ∧ Hid (Upd [] w wr)) (fun i _ => xs.length - (intOf i).toNat)
    case atStart => exact ⟨0, by omega, rfl, HM.out.1, HM.out.2⟩
    case round =>
      clear HM HU0
      obtain ⟨k, hk, rfl, HO, HU⟩ := hrel
      by_cases hlt : k < xs.length
      · obtain ⟨bb, off, x, rfl, hc, hx⟩ := (H.out.kept0 HU.out).get hlt
        have hx1 := HX.out x (mem_of_get hx.out)
        obtain ⟨p, HP⟩ : ∃ p, Hid (pos (-(k : Int)) xs.length = p) := ⟨_, rfl⟩
        have hp : p < xs.length := by rw [← HP.out]; exact pos_lt _ (by omega)
        obtain ⟨z, hz⟩ : ∃ z : Nat, (-x) % (xs.length : Int) = z := ⟨_, pos_cast (-x) xs.length (by omega)⟩
        have HN : Hid (mirTo xs (k + 1) = (mirTo xs k).set p (z : Int)) := by show mirTo _ _ = _; rw [mirTo, HP.out, mirV, getD_of hx.out, hz]
        have hml := mirTo_length xs k
        obtain ⟨y, hy⟩ : ∃ y, (mirTo xs k)[p]? = some y := ⟨_, List.getElem?_eq_getElem (by omega)⟩
        have HY := Lib.hid (show _ ∧ _ from ⟨hy, hml⟩)
        clear hy hml
        have i1 : (p : Int) < (xs.length : Int) := by omega
        have i2 : (k : Int) < (xs.length : Int) := by omega
        have HB1 : Hid (-9223372036854775807 ≤ -(k : Int) ∧ -(k : Int) ≤ 9223372036854775807) := by constructor <;> omega
        have HB2 : Hid (1 ≤ (xs.length : Int) ∧ (xs.length : Int) ≤ 4611686018427387903) := by constructor <;> omega
        have HB3 : Hid (-9223372036854775807 ≤ -x ∧ -x ≤ 9223372036854775807) := by constructor <;> omega
        have HZ : Hid (pos (-x) xs.length = z) := by show _ = _; have := pos_cast (-x) xs.length (by omega); omega
        have hw1 : IntKind.i64.wrap (-(k : Int)) = -(k : Int) := IntWalk.i64_in _ (by omega)
        have hw2 : IntKind.i64.wrap (-x) = -x := IntWalk.i64_in _ (by omega)
        have hw3 : (0 : Int) ≤ (k : Int) := by omega
        have hw4 : (0 : Int) ≤ (k : Int) := by omega
        have HZZ := Lib.hid hz
        clear hz
        go_wp2
        refine wp_region_still_tail 13 (by kernel_rfl) (by kernel_rfl) ?_
        simp only [List.take_succ_cons, List.take_zero, List.drop_succ_cons, List.drop_zero]
        iterate 4 still_step
        still_call (stillC (l01Mod_p _ _ p _ HB1.out HB2.out HP.out))
        iterate 6 still_step
        still_call (stillC (l01Mod_p _ _ z _ HB3.out HB2.out HZ.out))
        repeat still_step
        refine wpStill_nil ?_
        clear hw1 hw2 hw3 hw4 hc
        change wpList _ _ _ _ _ wr.drew
        have HU2 : Hid (Upd [] w wr.drew) := (HU.out).drew
        have HO2 : Hid (OwnI wr.drew w.heap.size (.slice (some ⟨g, 0, none⟩) xs.length xs.length) (mirTo xs k)) := HO.out.kept0 (Upd.refl wr).drew
        generalize wr.drew = w3 at HU2 HO2 ⊢
        have hc1 := HO2.out.cell HY.out.1
        have hf1 := HO2.out.free p
        have HO3 := Lib.hid (HO2.out.set p (z : Int) (by rw [HY.out.2]; exact hp))
        have HU3 : Hid (Upd [] w (w3.setCell ⟨g, p, none⟩ (.int .i64 (z : Int)))) := (HU2.out).setCell _ (.inr hg1)
        go_wp2
        go_roundw
        case rel => exact ⟨k + 1, by omega, by go_num, by rw [HN.out]; exact HO3, HU3⟩
        case measure => simp [intOf]; omega
      · obtain rfl : k = xs.length := by omega
        go_wp2
        go_ret2
        rw [HE.out.1, HE.out.2]
        exact ⟨_, rfl, HO.out, HU.out⟩
end Go.Proofs.Ytdjdddepplaagaa
