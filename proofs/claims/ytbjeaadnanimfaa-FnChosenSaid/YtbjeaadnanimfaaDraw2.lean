/- The draws: the next number of a source; one of some. -/
import Derived.Test.YtbjeaadnanimfaaDraw
namespace Go.Proofs.Ytbjeaadnanimfaa
open Go.RowKit
set_option linter.unusedVariables false
set_option linter.unusedSimpArgs false

def NextP (w : World) (g : Nat) (a : Option Addr) (c : Nat) (bs : List Int) (n : Int) (e : Ending) (w' : World) : Prop :=
  ∃ x : Int, e = .returned (.int .i64 x) ∧ (0 ≤ x ∧ (x = 0 ∨ x < n)) ∧ DC w' g a c bs ∧ Upd [g] w w'
set_option maxRecDepth 20000 in
set_option maxHeartbeats 3200000 in
theorem l01Next_c (g : Nat) (a : Option Addr) (c : Nat) (bs : List Int) (n : Int) (w : World) (h : DC w g a c bs) : Calls Try.prog 35 #[.pointer (some ⟨g, 0, none⟩), .int .i64 n] w (NextP w g a c bs n) := by
  have H := Lib.hid h
  clear h
  by_cases hn : n ≤ 1
  · go_enter Try.func35, Try.ntmps35
    go_wp2
    go_ret
    exact ⟨0, rfl, by omega, H.out, (Upd.refl w).mono (by simp)⟩
  obtain ⟨p, s, hb, hp, hs1, hs2⟩ := H.out.src
  obtain ⟨hb0, hb1, hb2⟩ := hb.cells
  have hf := hb.free 2
  have HB := Lib.hid hb
  have hbs := H.out.short
  clear hb
  go_enter Try.func35, Try.ntmps35
  go_wp2_with fail
  clear hb0 hb1 hb2 hf
  have HB1 := Lib.hid (HB.out.set2 (v := .int .i64 ((s * 48271 + 29) % 2147483647)))
  have HU1 : Hid (Upd [g] w (w.setCell ⟨g, 2, none⟩ (.int .i64 ((s * 48271 + 29) % 2147483647)))) := ((Upd.refl w).mono (by simp)).setCell _ (.inl (by simp))
  have hs3 : 0 ≤ (s * 48271 + 29) % 2147483647 ∧ (s * 48271 + 29) % 2147483647 < 2147483647 := by omega
  generalize (s * 48271 + 29) % 2147483647 = s1 at HB1 HU1 hs3 ⊢
  generalize w.setCell ⟨g, 2, none⟩ (.int .i64 s1) = w1 at HB1 HU1 ⊢
  obtain ⟨hb0, hb1, hb2⟩ := HB1.out.cells
  have hs4 : 0 ≤ s1 / 31 ∧ s1 / 31 < 70000000 := by omega
  generalize s1 / 31 = x0 at hs4 ⊢
  go_quiet (fail)
  clear hb0 hb1 hb2
  have HB2 := Lib.hid (HB1.out.kept ((Upd.refl w1).drewN nq) (by simp))
  have HU2 := Lib.hid (HU1.out.drewN nq)
  clear HB1 HU1
  generalize w1.drewN nq = w2 at HB2 HU2 ⊢
  by_cases hpl : p < bs.length
  · have i1 : (p : Int) < (bs.length : Int) := by omega
    have i2 : (0 : Int) ≤ (p : Int) := by omega
    obtain ⟨b, off, x, rfl, hc, hx1, hx2⟩ := (H.out.code).get hpl
    have hbg : b ≠ g := by
      rcases H.out.apart _ rfl with h1 | h1
      · rw [h1] at hpl; simp at hpl
      · simp only at h1; omega
    have HC : Hid (∀ w', Upd [g] w w' → w'.cell? ⟨b, off + p, none⟩ = some (.int .u8 x)) := fun w' u => u.cell hc (by simpa using hbg)
    clear hc
    have hc := HC.out _ HU2.out
    obtain ⟨hb0, hb1, hb2⟩ := HB2.out.cells
    have hw1 : IntKind.i64.wrap x = x := IntWalk.i64_in _ (by omega)
    have hw2 : IntKind.i64.wrap (x0 + x) = x0 + x := IntWalk.i64_in _ (by omega)
    go_wp2_with fail
    go_quiet (fail)
    clear hb0 hb1 hb2 hc hw1 hw2
    have HB3 := Lib.hid (HB2.out.kept ((Upd.refl w2).drewN nq) (by simp))
    have HU3 := Lib.hid (HU2.out.drewN nq)
    clear HB2 HU2
    generalize w2.drewN nq = w3 at HB3 HU3 ⊢
    have hs5 : 0 ≤ x0 + x ∧ x0 + x < 70000300 := by omega
    generalize x0 + x = x1 at hs5 ⊢
    obtain ⟨hb0, hb1, hb2⟩ := HB3.out.cells
    have hf := HB3.out.free 1
    have HB4 : Hid (Box (w3.setCell ⟨g, 1, none⟩ (.int .i64 ((p : Int) + 1))) g (.slice (some ⟨b, off, none⟩) bs.length c) (.int .i64 ((p + 1 : Nat) : Int)) (.int .i64 s1) 76) := HB3.out.set1
    have HU4 : Hid (Upd [g] w (w3.setCell ⟨g, 1, none⟩ (.int .i64 ((p : Int) + 1)))) := (HU3.out).setCell _ (.inl (by simp))
    have HD4 : Hid (DC (w3.setCell ⟨g, 1, none⟩ (.int .i64 ((p : Int) + 1))) g (some ⟨b, off, none⟩) c bs) :=
      ⟨⟨p + 1, s1, HB4.out, by omega, by omega, by omega⟩, H.out.code.kept HU4.out (fun ad e => by cases e; simpa using hbg), H.out.apart, H.out.short⟩
    have HM : Hid (∀ x : Int, 0 ≤ x % n ∧ (x % n = 0 ∨ x % n < n)) := fun x => ⟨Int.emod_nonneg _ (by omega), .inr (Int.emod_lt_of_pos _ (by omega))⟩
    by_cases h256 : n ≤ 256
    · by_cases hev : ((p : Int) + 1) % 2 = 0
      · go_wp2_with fail
        clear hb0 hb1 hb2 hf
        have hc := HC.out _ HU4.out
        generalize w3.setCell ⟨g, 1, none⟩ (.int .i64 ((p : Int) + 1)) = w4 at HB4 HU4 HD4 hc ⊢
        obtain ⟨hb0, hb1, hb2⟩ := HB4.out.cells
        have hw3 : IntKind.i64.wrap (p : Int) = (p : Int) := IntWalk.i64_in _ (by omega)
        have hw4 : IntKind.i64.wrap ((p : Int) + 1 - 1) = (p : Int) := by rw [show (p : Int) + 1 - 1 = p by omega]; exact hw3
        have hw5 : IntKind.i64.wrap (((p + 1 : Nat) : Int) - 1) = (p : Int) := by rw [show ((p + 1 : Nat) : Int) - 1 = p by omega]; exact hw3
        have hw1 : IntKind.i64.wrap x = x := IntWalk.i64_in _ (by omega)
        go_quiet (fail)
        clear hw1 hw3 hw4 hw5 hb0 hb1 hb2 hc
        have HD5 := Lib.hid (HD4.out.kept0 ((Upd.refl w4).drewN nq))
        have HU5 := Lib.hid (HU4.out.drewN nq)
        generalize w4.drewN nq = w5 at HD5 HU5 ⊢
        go_wp2_with fail
        go_ret
        exact ⟨x % n, rfl, HM.out x, HD5.out, HU5.out⟩
      · go_wp2_with fail
        go_ret
        exact ⟨x1 % n, rfl, HM.out x1, HD4.out, HU4.out⟩
    · go_wp2_with fail
      go_ret
      exact ⟨x1 % n, rfl, HM.out x1, HD4.out, HU4.out⟩
  · have HD2 : Hid (DC w2 g a c bs) := by
      refine ⟨⟨p, s1, HB2.out, hp, by omega, by omega⟩, ?_, H.out.apart, H.out.short⟩
      by_cases hbn : bs = []
      · exact .inl hbn
      · exact H.out.code.kept HU2.out fun ad e hm => by
          rcases H.out.apart ad e with h1 | h1
          · exact hbn h1
          · have : ad.block = g := by simpa using hm
            omega
    have HM : Hid (∀ x : Int, 0 ≤ x % n ∧ (x % n = 0 ∨ x % n < n)) := fun x => ⟨Int.emod_nonneg _ (by omega), .inr (Int.emod_lt_of_pos _ (by omega))⟩
    go_wp2_with fail
    go_ret
    exact ⟨x0 % n, rfl, HM.out x0, HD2.out, HU2.out⟩
/-- One of the numbers. -/
def PickP (w : World) (g : Nat) (a : Option Addr) (c : Nat) (bs : List Int) (xs : List Int) (e : Ending) (w' : World) : Prop :=
  ∃ x : Int, e = .returned (.int .i64 x) ∧ x ∈ xs ∧ DC w' g a c bs ∧ Upd [g] w w'
set_option maxRecDepth 20000 in
set_option maxHeartbeats 1600000 in
theorem l01Pick_c (g : Nat) (a : Option Addr) (c : Nat) (bs : List Int) (p : Option Addr) (d : Nat) (xs : List Int) (w : World) (h : DC w g a c bs) (hx : IntsAt w p xs) (hp : ∀ ad, p = some ad → g < ad.block) (hne : 0 < xs.length) (hl : xs.length ≤ 1000) :
    Calls Try.prog 36 #[.pointer (some ⟨g, 0, none⟩), .slice p xs.length d] w (PickP w g a c bs xs) := by
  have H := Lib.hid h
  have HX : Hid (∀ w', Upd [g] w w' → IntsAt w' p xs) := fun w' u => hx.kept u fun ad e => by have := hp ad e; simp; omega
  clear h hx hp
  go_enter Try.func36, Try.ntmps36
  go_wp2_with fail
  refine (l01Next_c g a c bs _ _ H.out).mono ?_
  rintro e w1 ⟨x, rfl, ⟨hx0, hx1⟩, hd, hu⟩
  obtain ⟨k, hk⟩ : ∃ k : Nat, x = k := ⟨x.toNat, by omega⟩
  subst hk
  have hkl : k < xs.length := by omega
  have HD := Lib.hid hd
  have HU := Lib.hid hu
  clear hd hu
  obtain ⟨b, off, y, rfl, hc, hy⟩ := (HX.out _ HU.out).get hkl
  go_wp2_with fail
  go_ret
  exact ⟨y, rfl, mem_of_get hy.out, HD.out, HU.out⟩
end Go.Proofs.Ytbjeaadnanimfaa
