/- The laws' dice. -/
import Derived.Test.YtiiljmaianfdeaaDraw3
import Derived.Deep.CutBlock
import Derived.Laws.BitsAllLaws
namespace Go.Proofs.Ytiiljmaianfdeaa
open Go.RowKit
set_option linter.unusedVariables false
set_option linter.unusedSimpArgs false

/-- Dice lie in block g; the code before them. -/
def Dice (w : World) (g : Nat) (a : Option Addr) (c : Nat) (bs : List Int) : Prop :=
  ∃ (p : Nat) (h : Int), Box w g (.slice a bs.length c) (.int .i64 p) (.int .u64 h) 89
def RollP (w : World) (a : Option Addr) (c : Nat) (bs : List Int) (e : Ending) (w' : World) : Prop := ∃ g, e = .returned (.pointer (some ⟨g, 0, none⟩)) ∧ w.heap.size ≤ g ∧ Dice w' g a c bs ∧ Upd [] w w'
set_option maxRecDepth 20000 in
set_option maxHeartbeats 1600000 in
theorem roll_c (a : Option Addr) (c : Nat) (bs : List Int) (s : Int) (w : World) (h : U8At w a bs) (hl : bs.length ≤ 4096) : Calls Try.prog 46 #[.slice a bs.length c, .int .u64 s] w (RollP w a c bs) := by
  have H : Hid (∀ w', Upd [] w w' → U8At w' a bs) := fun w' u => h.kept0 u
  clear h
  go_enter Try.func46, Try.ntmps46
  go_wp2
  go_loopw [6] (fun i wr => ∃ k : Nat, k ≤ bs.length ∧ i = .int .i64 k ∧ Hid (∃ h : Int, Box wr w.heap.size (.slice a bs.length c) (.int .i64 0) (.int .u64 h) 89) ∧ Hid (Upd [] w wr)) (fun i _ => bs.length - (intOf i).toNat)
  case atStart => exact ⟨0, by omega, rfl, ⟨_, Box.new _ _ _ _ _⟩, (Upd.refl _).alloc _⟩
  case round =>
    obtain ⟨k, hk, rfl, HB, HU⟩ := hrel
    obtain ⟨w3, ew3⟩ : ∃ x : World, x = wr := ⟨_, rfl⟩
    subst ew3
    by_cases hlt : k < bs.length
    · obtain ⟨b, off, x, rfl, hc, hx1, hx2⟩ := (H.out _ HU.out).get hlt
      obtain ⟨s, hb⟩ := HB.out
      obtain ⟨hb0, hb1, hb2⟩ := hb.cells
      have hf := hb.free 2
      have HBx := Lib.hid hb
      clear hb HB
      have i1 : (0 : Int) ≤ (k : Int) := by omega
      have i2 : (k : Int) < (bs.length : Int) := by omega
      go_wp2
      refine wp_region_still_tail 15 (by kernel_rfl) (by kernel_rfl) ?_
      simp only [List.take_succ_cons, List.take_zero, List.drop_succ_cons, List.drop_zero]
      repeat still_step
      refine wpStill_nil ?_
      change wpList _ _ _ _ _ w3.drew
      clear hb0 hb1 hb2 hf hc
      have HB4 := Lib.hid (HBx.out.kept (Upd.refl w3).drew (by simp))
      have HU4 := Lib.hid (HU.out.drew)
      generalize w3.drew = w4 at HB4 HU4 ⊢
      have hb2 := HB4.out.cells.2.2
      have hf := HB4.out.free 2
      go_wp2
      go_roundw
      case rel => exact ⟨k + 1, by omega, by go_num, ⟨_, HB4.out.set2⟩, (HU4.out.setCell (p := ⟨w.heap.size, 2, none⟩) _ (.inr (Nat.le_refl _)))⟩
      case measure => simp [intOf]; omega
    · obtain rfl : k = bs.length := by omega
      go_wp2
      go_ret
      obtain ⟨s, hb⟩ := HB.out
      exact ⟨_, rfl, Nat.le_refl _, ⟨0, s, hb⟩, HU.out⟩
theorem mask_val (s : Int) : ∃ x : Int, wrap64 (bits .and .u64 (IntKind.u64.wrap s / 8589934592) 16777215) = x ∧ 0 ≤ x ∧ x ≤ 16777215 := by
  have h : 0 ≤ IntKind.u64.wrap s ∧ IntKind.u64.wrap s < 18446744073709551616 := by
    rw [IntKind.wrap_u64]; omega
  have h2 : 0 ≤ IntKind.u64.wrap s / 8589934592 ∧ IntKind.u64.wrap s / 8589934592 < 18446744073709551616 := by omega
  refine ⟨_, rfl, ?_⟩
  rw [u64_and _ _ h2.1 h2.2 (by omega) (by omega)]
  have h3 : (IntKind.u64.wrap s / 8589934592).toNat &&& (16777215 : Int).toNat ≤ 16777215 := Nat.and_le_right
  generalize (IntKind.u64.wrap s / 8589934592).toNat &&& (16777215 : Int).toNat = k at h3
  have : wrap64 (k : Int) = k := by unfold wrap64; omega
  rw [this]; omega
set_option maxRecDepth 20000 in
set_option maxHeartbeats 1600000 in
theorem below_c (g : Nat) (a : Option Addr) (c : Nat) (bs : List Int) (n : Int) (w : World) (h : Dice w g a c bs) (hc : U8At w a bs) (hg : ∀ ad, a = some ad → bs = [] ∨ ad.block ≠ g) (hl : bs.length ≤ 4096) (hn : 1 ≤ n ∧ n ≤ 1000) :
    Calls Try.prog 47 #[.pointer (some ⟨g, 0, none⟩), .int .i64 n] w fun e w' => ∃ x : Int, e = .returned (.int .i64 x) ∧ (0 ≤ x ∧ x < n) ∧ Upd [g] w w' := by
  obtain ⟨p, s, hb⟩ := h
  obtain ⟨hb0, hb1, hb2⟩ := hb.cells
  have hf := hb.free 2
  have HB := Lib.hid hb
  clear hb
  go_enter Try.func47, Try.ntmps47
  go_upto_region 3 with fail
  obtain ⟨x0, hx0, hx1, hx2⟩ := mask_val (IntKind.u64.wrap (s * 6364136223846793005) + 1442695040888963407)
  rw [hx0]
  clear hx0 hb0 hb1 hb2 hf
  have HB1 := Lib.hid (HB.out.set2 (v := .int .u64 (IntKind.u64.wrap (IntKind.u64.wrap (s * 6364136223846793005) + 1442695040888963407))))
  have HU1 : Hid (Upd [g] w (w.setCell ⟨g, 2, none⟩ (.int .u64 (IntKind.u64.wrap (IntKind.u64.wrap (s * 6364136223846793005) + 1442695040888963407))))) := ((Upd.refl w).mono (by simp)).setCell _ (.inl (by simp))
  generalize IntKind.u64.wrap (IntKind.u64.wrap (s * 6364136223846793005) + 1442695040888963407) = s1 at HB1 HU1 ⊢
  generalize w.setCell ⟨g, 2, none⟩ (.int .u64 s1) = w1 at HB1 HU1 ⊢
  obtain ⟨hb0, hb1, hb2⟩ := HB1.out.cells
  have HM : Hid (∀ x : Int, 0 ≤ x → 0 ≤ x % n ∧ x % n < n) := fun x _ => ⟨Int.emod_nonneg _ (by omega), Int.emod_lt_of_pos _ (by omega)⟩
  go_quiet (fail)
  clear hb0 hb1 hb2
  have HB2 := Lib.hid (HB1.out.kept ((Upd.refl w1).drewN nq) (by simp))
  have HU2 := Lib.hid (HU1.out.drewN nq)
  clear HB1 HU1 HB
  generalize w1.drewN nq = w2 at HB2 HU2 ⊢
  by_cases hpl : p < bs.length
  · have i1 : (p : Int) < (bs.length : Int) := by omega
    have i2 : (0 : Int) ≤ (p : Int) := by omega
    obtain ⟨b, off, x, rfl, hcx, hy1, hy2⟩ := hc.get hpl
    have hbg : b ≠ g := by
      rcases hg _ rfl with h1 | h1
      · rw [h1] at hpl; simp at hpl
      · exact h1
    have HCX := Lib.hid (HU2.out.cell hcx (by simpa using hbg))
    clear hcx
    have hcx := HCX.out
    obtain ⟨hb0, hb1, hb2⟩ := HB2.out.cells
    have hw1 : IntKind.i64.wrap x = x := IntWalk.i64_in _ (by omega)
    have hw2 : IntKind.i64.wrap (x0 + x) = x0 + x := IntWalk.i64_in _ (by omega)
    go_wp2_with fail
    go_quiet (fail)
    clear hb0 hb1 hb2 hcx hw1 hw2
    have HB3 := Lib.hid (HB2.out.kept ((Upd.refl w2).drewN nq) (by simp))
    have HU3 := Lib.hid (HU2.out.drewN nq)
    clear HB2 HU2 HCX
    generalize w2.drewN nq = w3 at HB3 HU3 ⊢
    have hx3 : 0 ≤ x0 + x := by omega
    generalize x0 + x = x1 at hx3 ⊢
    obtain ⟨hb0, hb1, hb2⟩ := HB3.out.cells
    have hf := HB3.out.free 1
    have HU4 : Hid (Upd [g] w (w3.setCell ⟨g, 1, none⟩ (.int .i64 ((p : Int) + 1)))) := (HU3.out).setCell _ (.inl (by simp))
    go_wp2_with fail
    go_ret
    exact ⟨x1 % n, rfl, HM.out x1 hx3, HU4.out⟩
  · go_wp2_with fail
    go_ret
    exact ⟨x0 % n, rfl, HM.out x0 hx1, HU2.out⟩
end Go.Proofs.Ytiiljmaianfdeaa
