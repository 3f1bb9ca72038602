/- Chapter 3 of the reference: the table of cosines. -/
import Derived.Test.YtbjeaadnanimfaaCos
import Derived.Test.YtbjeaadnanimfaaAppF
import Derived.Deep.RegionLaw
namespace Go.Proofs.Ytbjeaadnanimfaa
open Go.RowKit
set_option linter.unusedVariables false
set_option linter.unusedSimpArgs false

def cosL (n : Nat) : List Int := (List.range n).map fun k => (cosP k).1
theorem cosL_get {n k : Nat} (h : k < n) : (cosL n)[k]? = some (cosP k).1 := by
  rw [cosL, List.getElem?_map, List.getElem?_range h]; rfl
theorem cosL_length (n : Nat) : (cosL n).length = n := by simp [cosL]
theorem cosL_succ (n : Nat) : cosL (n + 1) = cosL n ++ [(cosP n).1] := by simp [cosL, List.range_succ]
def tabL : List Int := cosL 180 ++ [0]
theorem tabL_length : tabL.length = 181 := by simp [tabL, cosL_length]
theorem tabL_get {k : Nat} (h : k ≤ 180) : tabL[k]? = some (cosF k) := by
  unfold tabL cosF
  split
  · rename_i e; subst e; rw [List.getElem?_append_right (by rw [cosL_length]; omega), cosL_length]; rfl
  · rw [List.getElem?_append_left (by rw [cosL_length]; omega)]; exact cosL_get (by omega)
theorem OwnI.lit2 {w : World} {B : Nat} (hB : B ≤ w.heap.size) (x y : Int) : OwnI (w.alloc (.cells #[.int .i64 x, .int .i64 y] 2)) B (.slice (some ⟨w.heap.size, 0, none⟩) 2 2) [x, y] :=
  World.ownsRow_lit w #[.int .i64 x, .int .i64 y] 2 hB (by unfold maxLen; omega) rfl
theorem cell_at (w : World) (v : Value) (t : TypeId) : (w.alloc (.cells #[v] t)).cell? ⟨w.heap.size, 0, none⟩ = some v := by have := cell_one_new w v t 0 v rfl; rwa [Addr.add_lit] at this
set_option maxRecDepth 20000 in
set_option maxHeartbeats 1600000 in
theorem l03Table_c (w : World) : Calls Try.prog 84 #[] w (NewI w tabL) := by
  go_enter Try.func84, Try.ntmps84
  go_wp2
  go_loopw [1, 2] (fun v i wr => ∃ n g c : Nat, (2 ≤ n ∧ n ≤ 180) ∧ i = .int .i64 (n : Int) ∧ v = .slice (some ⟨g, 0, none⟩) n c ∧ Hid (OwnI wr w.heap.size v (cosL n)) ∧ Hid (Upd [] w wr)) (fun _ i _ => 200 - (intOf i).toNat)
  case atStart => exact ⟨2, w.heap.size, 2, by omega, rfl, rfl, OwnI.lit2 (Nat.le_refl _) 1000000000 999961923, (Upd.refl w).alloc _⟩
  case round =>
    obtain ⟨n, g, c, hm, rfl, rfl, HO, HU⟩ := hrel
    by_cases hlt : n < 180
    · obtain ⟨m, rfl⟩ : ∃ m, n = m + 2 := ⟨n - 2, by omega⟩
      have hbd := cosP_bd (k := m) (by omega)
      have hc0 := HO.out.cell (cosL_get (show m < m + 2 by omega))
      have hc1 := HO.out.cell (cosL_get (show m + 1 < m + 2 by omega))
      have HL : Hid (cosL (m + 2 + 1) = cosL (m + 2) ++ [nearF (1999923846 * (cosP m).2) 1000000000 - (cosP m).1]) := cosL_succ (m + 2)
      have HC : Hid ((cosP (m + 1)).1 = (cosP m).2) := rfl
      rw [HC.out] at hc1
      obtain ⟨A, hA⟩ : ∃ A, (cosP m).1 = A := ⟨_, rfl⟩
      obtain ⟨B, hB⟩ : ∃ B, (cosP m).2 = B := ⟨_, rfl⟩
      rw [hA, hB] at hbd HL
      rw [hA] at hc0
      rw [hB] at hc1
      clear hA hB HC
      obtain ⟨n, hn⟩ : ∃ n, m + 2 = n := ⟨_, rfl⟩
      obtain ⟨p, hp⟩ : ∃ p, m + 1 = p := ⟨_, rfl⟩
      rw [hn] at HL HO hm hlt
      rw [hp] at hc1
      try rw [hn]
      have hnb : -2000000001 ≤ nearF (1999923846 * B) 1000000000 ∧ nearF (1999923846 * B) 1000000000 ≤ 2000000001 := by unfold nearF; omega
      have hx1 : (-2000000000000000000 ≤ 1999923846 * B ∧ 1999923846 * B ≤ 2000000000000000000) := by omega
      have HX := Lib.hid hx1
      have hw1 : IntKind.i64.wrap (1999923846 * B) = 1999923846 * B := IntWalk.i64_in _ (by omega)
      have hw2 : IntKind.i64.wrap (nearF (1999923846 * B) 1000000000 - A) = nearF (1999923846 * B) 1000000000 - A := IntWalk.i64_in _ (by omega)
      have hw3 : IntKind.i64.wrap ((n : Int) + 1) = ((n + 1 : Nat) : Int) := IntWalk.i64_in _ (by omega)
      have hw4 : IntKind.i64.wrap ((n : Int) - 1) = (p : Int) := by rw [show (n : Int) - 1 = (p : Int) by omega]; exact IntWalk.i64_in _ (by omega)
      have hw5 : IntKind.i64.wrap ((n : Int) - 2) = (m : Int) := by clear hw4 hw3 hw2 hw1; rw [show (n : Int) - 2 = (m : Int) by omega]; exact IntWalk.i64_in _ (by omega)
      have i1 : (n : Int) < 180 := by omega
      have i2 : (p : Int) < (n : Int) := by omega
      have i3 : (m : Int) < (n : Int) := by omega
      have HB : Hid ((cosL n).length ≤ 1048576) := Nat.le_trans (Nat.le_of_eq (cosL_length n)) (by omega)
      have HG : Hid (w.heap.size ≤ g) := (World.ownsRow.lt (w := wr) HO.out g rfl).1
      clear hbd hnb hx1 hn hp
      go_wp2
      go_region_law (first
        | (go_simp; go_at_call 61
           refine (l01Nearest_c _ _ _ HX.out (by omega)).mono ?_
           rintro e w' ⟨rfl, rfl⟩)
        | (refine step_appF rfl _ _ rfl (cosL n) _ ⟨wr.drew.heap.size, 0, none⟩ _ rfl rfl (HO.out.kept0 ((Upd.refl wr).drew.alloc (.cells #[.int .i64 (nearF (1999923846 * B) 1000000000 - A)] 2))) ((HU.out.drew).alloc (.cells #[.int .i64 (nearF (1999923846 * B) 1000000000 - A)] 2)).size HB.out (cell_at wr.drew _ _) rfl ?_
           intro g' c' w1 h1 h2 h3
           have H1 := Lib.hid h1
           have H2 : Hid (Upd [] w w1) := (((HU.out).drew).alloc _).after0 h2 (by simp; exact HG.out)
           clear h1 h2 h3))
      all_goals
        clear hc0 hc1
        rw [← HL.out] at H1
        go_wp2
        go_roundw
        case rel => exact ⟨n + 1, g', c', by omega, by go_num, rfl, H1, H2⟩
        case measure => simp [intOf]; omega
    · obtain rfl : n = 180 := by omega
      have HB : Hid ((cosL 180).length ≤ 2097152) := Nat.le_trans (Nat.le_of_eq (cosL_length 180)) (by omega)
      go_wp2_with (at_builtin; refine wpList_appI rfl _ _ rfl _ _ _ rfl rfl HO.out HU.out HB.out ?_; intro v' w1 h1 h2; have H1 := Lib.hid h1; have H2 := Lib.hid h2; clear h1 h2)
      go_ret
      exact ⟨_, rfl, H1.out, H2.out⟩
end Go.Proofs.Ytbjeaadnanimfaa
