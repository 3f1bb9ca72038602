/- The draw of equal gears. -/
import Derived.Test.YtjnkckpebfafjaaDrawT4
namespace Go.Proofs.Ytjnkckpebfafjaa
open Go.RowKit
set_option linter.unusedVariables false
set_option linter.unusedSimpArgs false

set_option maxRecDepth 20000 in
set_option maxHeartbeats 6400000 in
theorem DrawEqualGears_c (a : Option Addr) (c : Nat) (bs : List Int) (w : World) (hc : U8At w a bs) (hl : bs.length ≤ 4096) : Calls Try.prog 23 #[.slice a bs.length c] w (DrawTc w) := by
  obtain ⟨B, hB⟩ : ∃ B, w.heap.size = B := ⟨_, rfl⟩
  have u1 : Upd [] w (w.alloc (.cells #[.slice none 0 0, .slice none 0 0, .int .i64 0] 26)) := (Upd.refl w).alloc _
  have RB := Box.new w (.slice none 0 0) (.slice none 0 0) (.int .i64 0) 26
  rw [hB] at RB
  have RB := Lib.hid RB
  have HC := Lib.hid (hc.kept0 u1)
  have s1 : (w.alloc (.cells #[.slice none 0 0, .slice none 0 0, .int .i64 0] 26)).heap.size = B + 1 := by simp [hB]
  clear hc
  go_enter Try.func23, Try.ntmps23
  go_wp2_with fail
  refine (l01From_c a c bs _ HC.out hl).mono ?_
  rintro e w1 ⟨g, rfl, hg, hd, hu⟩
  have D := Lib.hid hd
  replace RB := Lib.hid (RB.out.kept hu (by simp))
  have UF := Lib.hid (u1.then0 hu)
  have hBg : B < g := by omega
  have HgB : Hid (∀ k, k ∈ [g] → k < w1.heap.size) := fun k hk => by rw [List.mem_singleton.1 hk]; exact hd.lt
  have hg1 : g < w1.heap.size := hd.lt
  clear hd hu HC s1 u1 hg
  go_wp2_with fail
  refine (l09Draw_c g a c bs _ D.out).mono ?_
  rintro e wn ⟨gf, cf, gr, cr, fs, rs, n, rfl, o1, o2, ap, ⟨lf1, lf2, lr⟩, hd, hu⟩
  replace RB := Lib.hid (RB.out.kept hu (by simp; omega))
  replace D := Lib.hid hd
  have hsz := hu.size
  have bX := Box.new wn (.slice (some ⟨gf, 0, none⟩) fs.length cf) (.slice (some ⟨gr, 0, none⟩) rs.length cr) (.int .i64 n) 26
  have uX : Upd [] wn (wn.alloc (.cells #[.slice (some ⟨gf, 0, none⟩) fs.length cf, .slice (some ⟨gr, 0, none⟩) rs.length cr, .int .i64 n] 26)) := (Upd.refl wn).alloc _
  have T : Hid (TB (wn.alloc (.cells #[.slice (some ⟨gf, 0, none⟩) fs.length cf, .slice (some ⟨gr, 0, none⟩) rs.length cr, .int .i64 n] 26)) w1.heap.size wn.heap.size gf cf gr cr fs rs n) := ⟨bX, o1.kept0 uX, o2.kept0 uX, ap, hsz⟩
  replace D := Lib.hid (D.out.kept0 uX)
  replace RB := Lib.hid (RB.out.kept uX (by simp))
  have UX := Lib.hid (hu.then0 uX)
  clear hd hu o1 o2 uX bX
  go_wp2_with fail
  obtain ⟨X, hXe⟩ : ∃ X, wn.heap.size = X := ⟨_, rfl⟩
  rw [hXe] at T hsz ⊢
  have hXg : X ≠ g ∧ X ≠ B := by omega
  clear hXe hsz
  generalize wn.alloc (.cells #[.slice (some ⟨gf, 0, none⟩) fs.length cf, .slice (some ⟨gr, 0, none⟩) rs.length cr, .int .i64 n] 26) = w2 at T D RB UX ⊢
  refine (l01Next_c g a c bs _ _ D.out).mono ?_
  rintro e w6 ⟨q, rfl, hq, hd, hu⟩
  replace D := Lib.hid hd
  replace T := Lib.hid (T.out.kept hu HgB.out)
  replace RB := Lib.hid (RB.out.kept hu (by simp; omega))
  replace UX := Lib.hid (UX.out.then1 hu)
  clear hd hu
  by_cases q0 : q = 0
  · subst q0
    have O1 : Hid (OwnI (w6.alloc (.cells #[.int .i64 24, .int .i64 36, .int .i64 48] 2)) w6.heap.size (.slice (some ⟨w6.heap.size, 0, none⟩) 3 3) [24, 36, 48]) := lit_own (Nat.le_refl _) [24, 36, 48] (by simp)
    have hz1 : (w6.alloc (.cells #[.int .i64 24, .int .i64 36, .int .i64 48] 2)).heap.size = w6.heap.size + 1 := by simp
    have O2 : Hid (OwnI ((w6.alloc (.cells #[.int .i64 24, .int .i64 36, .int .i64 48] 2)).alloc (.cells #[.int .i64 12, .int .i64 16, .int .i64 18, .int .i64 24, .int .i64 32] 2)) w6.heap.size (.slice (some ⟨(w6.alloc (.cells #[.int .i64 24, .int .i64 36, .int .i64 48] 2)).heap.size, 0, none⟩) 5 5) [12, 16, 18, 24, 32]) := lit_own (by omega) [12, 16, 18, 24, 32] (by simp)
    rw [hz1] at O2
    have ua : Upd [] w6 ((w6.alloc (.cells #[.int .i64 24, .int .i64 36, .int .i64 48] 2)).alloc (.cells #[.int .i64 12, .int .i64 16, .int .i64 18, .int .i64 24, .int .i64 32] 2)) := ((Upd.refl w6).alloc _).then0 ((Upd.refl _).alloc _)
    replace O1 := Lib.hid (O1.out.kept0 ((Upd.refl _).alloc (.cells #[.int .i64 12, .int .i64 16, .int .i64 18, .int .i64 24, .int .i64 32] 2)))
    replace D := Lib.hid (D.out.kept0 ua)
    replace RB := Lib.hid (RB.out.kept ua (by simp))
    have hgl : g < w6.heap.size := Nat.lt_of_lt_of_le hg1 UX.out.size
    replace UX := Lib.hid (UX.out.then0 ua)
    clear ua T hz1
    go_wp2_with fail
    obtain ⟨k, hk⟩ : ∃ k, w6.heap.size = k := ⟨_, rfl⟩
    rw [hk] at O1 O2 hgl ⊢
    clear hk
    generalize (w6.alloc (.cells #[.int .i64 24, .int .i64 36, .int .i64 48] 2)).alloc (.cells #[.int .i64 12, .int .i64 16, .int .i64 18, .int .i64 24, .int .i64 32] 2) = w7 at O1 O2 D RB UX ⊢
    refine (l01Next_c g a c bs _ _ D.out).mono ?_
    rintro e w8 ⟨y, rfl, hy, hd, hu⟩
    replace O1 := Lib.hid (O1.out.kept hu (by simp; omega))
    replace O2 := Lib.hid (O2.out.kept hu (by simp; omega))
    replace RB := Lib.hid (RB.out.kept hu (by simp; omega))
    replace UX := Lib.hid (UX.out.then1 hu)
    clear hd hu D
    obtain ⟨N, hN⟩ : ∃ N : Nat, 1 + y = N := ⟨(1 + y).toNat, by omega⟩
    have hN2 : 1 ≤ N ∧ N ≤ 5 := by omega
    have hN3 : y = (N : Int) - 1 := by omega
    have hw1 : IntKind.i64.wrap (1 + y) = (N : Int) := by rw [hN]; exact IntWalk.i64_in _ (by omega)
    replace O2 : Hid (OwnI w8 k (.slice (some ⟨k + 1, 0, none⟩) N 5) ([12, 16, 18, 24, 32].take N)) := O2.out.cut (by omega)
    have hl2 : ([12, 16, 18, 24, 32].take N : List Int).length = N := by simp; omega
    clear hN hy
    subst hN3
    generalize ([12, 16, 18, 24, 32].take N : List Int) = rs2 at O2 hl2
    obtain ⟨hm0, hm1, hm2⟩ := RB.out.cells
    have hf0 := RB.out.free 0
    have hf1 := RB.out.free 1
    have hf2 := RB.out.free 2
    have hne1 : k ≠ B := own_ne O1.out RB.out
    have hne2 : k + 1 ≠ B := own_ne O2.out RB.out
    have HL2 := Lib.hid hl2
    clear hl2
    go_wp2_with fail
    have RBf := Lib.hid (((RB.out.set0 (v := .slice (some ⟨k, 0, none⟩) 3 3)).set1 (v := .slice (some ⟨k + 1, 0, none⟩) N 5)).set2 (v := .int .i64 2100))
    obtain ⟨hr0, hr1, hr2⟩ := RBf.out.cells
    have hu5 : Upd [B] w8 (((w8.setCell ⟨B, 0, none⟩ (.slice (some ⟨k, 0, none⟩) 3 3)).setCell ⟨B, 1, none⟩ (.slice (some ⟨k + 1, 0, none⟩) N 5)).setCell ⟨B, 2, none⟩ (.int .i64 2100)) :=
      ((((Upd.refl w8).mono (gs := []) (hs := [B]) (by simp)).setCell _ (.inl (by simp))).setCell _ (.inl (by simp))).setCell _ (.inl (by simp))
    have hl2 := HL2.out
    subst hl2
    refine bodyPost_ret (v := .agg #[.slice (some ⟨k, 0, none⟩) 3 3, .slice (some ⟨k + 1, 0, none⟩) rs2.length 5, .int .i64 2100]) ?_ rfl ?_
    · simp [results, Try.f23, asAddr, loadVar, loadCells, loadCellsFrom, Addr.add, hr0, hr1, hr2]
    · exact ⟨_, 3, _, 5, [24, 36, 48], rs2, 2100, rfl, (O1.out.keptNe hu5 (fun k hk => by cases hk; simpa using hne1)).ints, (O2.out.keptNe hu5 (fun k hk => by cases hk; simpa using hne2)).ints, by simp; omega, (UF.out.after0 UX.out (by simp; omega)).after0 hu5 (by simp; omega)⟩
  · have hne1 := own_ne T.out.f RB.out
    have hne2 := own_ne T.out.r RB.out
    obtain ⟨hm0, hm1, hm2⟩ := RB.out.cells
    obtain ⟨hb0, hb1, hb2⟩ := T.out.box.cells
    have hf0 := RB.out.free 0
    have hf1 := RB.out.free 1
    have hf2 := RB.out.free 2
    go_wp2_with fail
    have RBf := Lib.hid (((RB.out.set0 (v := .slice (some ⟨gf, 0, none⟩) fs.length cf)).set1 (v := .slice (some ⟨gr, 0, none⟩) rs.length cr)).set2 (v := .int .i64 n))
    obtain ⟨hr0, hr1, hr2⟩ := RBf.out.cells
    have hu5 : Upd [B] w6 (((w6.setCell ⟨B, 0, none⟩ (.slice (some ⟨gf, 0, none⟩) fs.length cf)).setCell ⟨B, 1, none⟩ (.slice (some ⟨gr, 0, none⟩) rs.length cr)).setCell ⟨B, 2, none⟩ (.int .i64 n)) :=
      ((((Upd.refl w6).mono (gs := []) (hs := [B]) (by simp)).setCell _ (.inl (by simp))).setCell _ (.inl (by simp))).setCell _ (.inl (by simp))
    refine bodyPost_ret (v := .agg #[.slice (some ⟨gf, 0, none⟩) fs.length cf, .slice (some ⟨gr, 0, none⟩) rs.length cr, .int .i64 n]) ?_ rfl ?_
    · simp [results, Try.f23, asAddr, loadVar, loadCells, loadCellsFrom, Addr.add, hr0, hr1, hr2]
    · exact ⟨_, cf, _, cr, fs, rs, n, rfl, (T.out.f.keptNe hu5 (fun k hk => by cases hk; simpa using hne1)).ints, (T.out.r.keptNe hu5 (fun k hk => by cases hk; simpa using hne2)).ints, by omega, (UF.out.after0 UX.out (by simp; omega)).after0 hu5 (by simp; omega)⟩
end Go.Proofs.Ytjnkckpebfafjaa
