/- Chapter 5: draws of wheels with stocks and tolerances. -/
import Derived.Test.YtbjeaadnanimfaaDrawC
import Derived.Test.YtbjeaadnanimfaaDrawK
import Derived.Lib.MinMax
namespace Go.Proofs.Ytbjeaadnanimfaa
open Go.RowKit Go.Sort
set_option linter.unusedVariables false
set_option linter.unusedSimpArgs false

/-- A wheel and a stock are drawn. -/
def WhS (w : World) (e : Ending) (w' : World) : Prop :=
  ∃ (h l r lo ro rh d o k : Int) (p : Option Addr) (c : Nat) (xs : List Int), e = .returned (.tuple #[.agg #[.int .i64 h, .int .i64 l, .int .i64 r, .int .i64 lo, .int .i64 ro, .int .i64 rh, .int .i64 d, .int .i64 o, .int .i64 k], .slice p xs.length c]) ∧ IntsAt w' p xs ∧ xs.length ≤ 40 ∧ Upd [] w w'
set_option maxRecDepth 20000 in
set_option maxHeartbeats 3200000 in
theorem DrawSpokeCounts_c (a : Option Addr) (c : Nat) (bs : List Int) (w : World) (hc : U8At w a bs) (hl : bs.length ≤ 4096) : Calls Try.prog 43 #[.slice a bs.length c] w (WhD w) := by
  have u1 : Upd [] w (w.alloc (.cells #[.int .i64 0, .int .i64 0, .int .i64 0, .int .i64 0, .int .i64 0, .int .i64 0, .int .i64 0, .int .i64 0, .int .i64 0] 34)) := (Upd.refl w).alloc _
  have b1 : Blk (w.alloc (.cells #[.int .i64 0, .int .i64 0, .int .i64 0, .int .i64 0, .int .i64 0, .int .i64 0, .int .i64 0, .int .i64 0, .int .i64 0] 34)) w.heap.size [0, 0, 0, 0, 0, 0, 0, 0, 0] 34 := Blk.new w [0, 0, 0, 0, 0, 0, 0, 0, 0] _
  obtain ⟨B, hB⟩ : ∃ B, w.heap.size = B := ⟨_, rfl⟩
  have s1 : (w.alloc (.cells #[.int .i64 0, .int .i64 0, .int .i64 0, .int .i64 0, .int .i64 0, .int .i64 0, .int .i64 0, .int .i64 0, .int .i64 0] 34)).heap.size = B + 1 := by simp [hB]
  rw [hB] at b1
  have HB := Lib.hid hB
  have HSz := Lib.hid s1
  have RB := Lib.hid b1
  have HC := Lib.hid (hc.kept0 u1)
  have UF := Lib.hid u1
  clear hc u1 b1 s1
  go_enter Try.func43, Try.ntmps43
  go_wp2_with fail
  try rw [hB]
  clear hB
  refine (l01From_c a c bs _ HC.out hl).mono ?_
  rintro e w1 ⟨g, rfl, hg, hd, hu⟩
  have HBg : Hid (B < g) := by have := HSz.out; show _ < _; omega
  have D := Lib.hid hd
  replace RB := Lib.hid (RB.out.kept0 hu)
  replace UF := Lib.hid (UF.out.then0 hu)
  have U : Hid (Upd [g] w1 w1) := (Upd.refl w1).mono (by simp)
  have HgB : Hid (g < w1.heap.size) := hd.lt
  replace HC := Lib.hid (HC.out.kept0 hu)
  clear hd hu hg HSz
  go_wp2_with fail
  refine (l04Wheel_c g a c bs _ D.out).mono ?_
  rintro e wn ⟨h, l, r, lo, ro, rh, d, o, k, rfl, hd, hu⟩
  replace RB := Lib.hid (RB.out.kept hu (by simp; have := HBg.out; omega))
  replace D := Lib.hid hd
  replace U := Lib.hid (U.out.then1 hu)
  clear hd hu
  have bX : Blk (wn.alloc (.cells #[.int .i64 h, .int .i64 l, .int .i64 r, .int .i64 lo, .int .i64 ro, .int .i64 rh, .int .i64 d, .int .i64 o, .int .i64 k] 34)) wn.heap.size [h, l, r, lo, ro, rh, d, o, k] 34 := Blk.new wn [h, l, r, lo, ro, rh, d, o, k] _
  have uX : Upd [] wn (wn.alloc (.cells #[.int .i64 h, .int .i64 l, .int .i64 r, .int .i64 lo, .int .i64 ro, .int .i64 rh, .int .i64 d, .int .i64 o, .int .i64 k] 34)) := (Upd.refl wn).alloc _
  have hx1 := U.out.size
  have hlt := RB.out.lt
  have hgx := D.out.lt
  replace RB := Lib.hid (RB.out.kept0 uX)
  replace D := Lib.hid (D.out.kept0 uX)
  replace U := Lib.hid (U.out.then0 uX)
  clear uX
  go_wp2_with fail
  generalize wn.alloc (.cells #[.int .i64 h, .int .i64 l, .int .i64 r, .int .i64 lo, .int .i64 ro, .int .i64 rh, .int .i64 d, .int .i64 o, .int .i64 k] 34) = w2 at bX RB D U ⊢
  generalize wn.heap.size = x at bX hlt hgx hx1 ⊢
  have X := Lib.hid bX
  have HgX := Lib.hid hgx
  have HBx := Lib.hid hlt
  have HX1 := Lib.hid hx1
  clear bX hgx hlt hx1
  refine (l01Next_c g a c bs _ _ D.out).mono ?_
  rintro e w5 ⟨y, rfl, hy, hd, hu⟩
  replace RB := Lib.hid (RB.out.kept hu (by simp; have := HBg.out; omega))
  replace X := Lib.hid (X.out.kept hu (by simp; have := HgX.out; omega))
  replace D := Lib.hid hd
  replace U := Lib.hid (U.out.then1 hu)
  clear hd hu hy
  by_cases hy : y = 0
  · subst hy
    obtain ⟨c0, c1, c2, c3, c4, c5, c6, c7, c8⟩ := X.out.whC
    have f2 := X.out.free 2
    have f4 := X.out.free 4
    have f7 := X.out.free 7
    have hne : ¬ B = x := by have := HBx.out; omega
    have uS : Upd [x] w5 (((w5.setCell ⟨x, 2, none⟩ (.int .i64 l)).setCell ⟨x, 4, none⟩ (.int .i64 lo)).setCell ⟨x, 7, none⟩ (.int .i64 0)) := ((((Upd.refl w5).mono (gs := []) (by simp)).setCell _ (.inl (by simp))).setCell _ (.inl (by simp))).setCell _ (.inl (by simp))
    replace RB := Lib.hid (RB.out.kept uS (by simp; exact hne))
    replace X := Lib.hid (((X.out.set 2 l).set 4 lo).set 7 0)
    replace U := Lib.hid (U.out.afterB uS (fun k hk => by rw [List.mem_singleton.1 hk]; exact HX1.out))
    clear uS hne D
    go_upto_region 7 with fail
    clear c0 c1 c2 c3 c4 c5 c6 c7 c8 f2 f4 f7
    generalize ((w5.setCell ⟨x, 2, none⟩ (.int .i64 l)).setCell ⟨x, 4, none⟩ (.int .i64 lo)).setCell ⟨x, 7, none⟩ (.int .i64 0) = w13 at RB X U ⊢
    have RB4 := RB
    have U3 := U
    have m0 := RB4.out.cell (k := 0) rfl
    have f0 := RB4.out.free 0
    have m1 := RB4.out.cell (k := 1) rfl
    have f1 := RB4.out.free 1
    have m2 := RB4.out.cell (k := 2) rfl
    have f2 := RB4.out.free 2
    have m3 := RB4.out.cell (k := 3) rfl
    have f3 := RB4.out.free 3
    have m4 := RB4.out.cell (k := 4) rfl
    have f4 := RB4.out.free 4
    have m5 := RB4.out.cell (k := 5) rfl
    have f5 := RB4.out.free 5
    have m6 := RB4.out.cell (k := 6) rfl
    have f6 := RB4.out.free 6
    have m7 := RB4.out.cell (k := 7) rfl
    have f7 := RB4.out.free 7
    have m8 := RB4.out.cell (k := 8) rfl
    have f8 := RB4.out.free 8
    obtain ⟨c0, c1, c2, c3, c4, c5, c6, c7, c8⟩ := X.out.whC
    have b5 := Lib.hid (((((((((RB4.out.set 0 h).set 1 l).set 2 l).set 3 lo).set 4 lo).set 5 rh).set 6 d).set 7 0).set 8 k)
    have u5 : Upd [B] w13 _ := ((Upd.refl w13).mono (gs := []) (hs := [B]) (by simp)).chain9 (B := B) (v0 := .int .i64 h) (v1 := .int .i64 l) (v2 := .int .i64 l) (v3 := .int .i64 lo) (v4 := .int .i64 lo) (v5 := .int .i64 rh) (v6 := .int .i64 d) (v7 := .int .i64 0) (v8 := .int .i64 k) (.inl (by simp))
    have HU5 : Hid (Upd [] w _) := (UF.out.after0 U3.out (fun k hk => by rw [List.mem_singleton.1 hk, HB.out]; have := HBg.out; omega)).after0 u5 (fun k hk => by rw [List.mem_singleton.1 hk, HB.out]; exact Nat.le_refl _)
    clear u5
    have hr0 := b5.out.cell (k := 0) rfl
    have hr1 := b5.out.cell (k := 1) rfl
    have hr2 := b5.out.cell (k := 2) rfl
    have hr3 := b5.out.cell (k := 3) rfl
    have hr4 := b5.out.cell (k := 4) rfl
    have hr5 := b5.out.cell (k := 5) rfl
    have hr6 := b5.out.cell (k := 6) rfl
    have hr7 := b5.out.cell (k := 7) rfl
    have hr8 := b5.out.cell (k := 8) rfl
    go_wp2_with fail
    refine bodyPost_ret (v := .agg #[.int .i64 h, .int .i64 l, .int .i64 l, .int .i64 lo, .int .i64 lo, .int .i64 rh, .int .i64 d, .int .i64 0, .int .i64 k]) ?_ rfl ?_
    · simp [results, Try.f43, asAddr, loadVar, loadCells, loadCellsFrom, Addr.add, hr0, hr1, hr2, hr3, hr4, hr5, hr6, hr7, hr8]
    · exact ⟨_, _, _, _, _, _, _, _, _, rfl, HU5.out⟩
  · go_upto_region 7 with fail
    clear D
    obtain ⟨w13, ew⟩ : ∃ x : World, x = w5 := ⟨_, rfl⟩
    subst ew
    have RB4 := RB
    have U3 := U
    have m0 := RB4.out.cell (k := 0) rfl
    have f0 := RB4.out.free 0
    have m1 := RB4.out.cell (k := 1) rfl
    have f1 := RB4.out.free 1
    have m2 := RB4.out.cell (k := 2) rfl
    have f2 := RB4.out.free 2
    have m3 := RB4.out.cell (k := 3) rfl
    have f3 := RB4.out.free 3
    have m4 := RB4.out.cell (k := 4) rfl
    have f4 := RB4.out.free 4
    have m5 := RB4.out.cell (k := 5) rfl
    have f5 := RB4.out.free 5
    have m6 := RB4.out.cell (k := 6) rfl
    have f6 := RB4.out.free 6
    have m7 := RB4.out.cell (k := 7) rfl
    have f7 := RB4.out.free 7
    have m8 := RB4.out.cell (k := 8) rfl
    have f8 := RB4.out.free 8
    obtain ⟨c0, c1, c2, c3, c4, c5, c6, c7, c8⟩ := X.out.whC
    have b5 := Lib.hid (((((((((RB4.out.set 0 h).set 1 l).set 2 r).set 3 lo).set 4 ro).set 5 rh).set 6 d).set 7 o).set 8 k)
    have u5 : Upd [B] w13 _ := ((Upd.refl w13).mono (gs := []) (hs := [B]) (by simp)).chain9 (B := B) (v0 := .int .i64 h) (v1 := .int .i64 l) (v2 := .int .i64 r) (v3 := .int .i64 lo) (v4 := .int .i64 ro) (v5 := .int .i64 rh) (v6 := .int .i64 d) (v7 := .int .i64 o) (v8 := .int .i64 k) (.inl (by simp))
    have HU5 : Hid (Upd [] w _) := (UF.out.after0 U3.out (fun k hk => by rw [List.mem_singleton.1 hk, HB.out]; have := HBg.out; omega)).after0 u5 (fun k hk => by rw [List.mem_singleton.1 hk, HB.out]; exact Nat.le_refl _)
    clear u5
    have hr0 := b5.out.cell (k := 0) rfl
    have hr1 := b5.out.cell (k := 1) rfl
    have hr2 := b5.out.cell (k := 2) rfl
    have hr3 := b5.out.cell (k := 3) rfl
    have hr4 := b5.out.cell (k := 4) rfl
    have hr5 := b5.out.cell (k := 5) rfl
    have hr6 := b5.out.cell (k := 6) rfl
    have hr7 := b5.out.cell (k := 7) rfl
    have hr8 := b5.out.cell (k := 8) rfl
    go_wp2_with fail
    refine bodyPost_ret (v := .agg #[.int .i64 h, .int .i64 l, .int .i64 r, .int .i64 lo, .int .i64 ro, .int .i64 rh, .int .i64 d, .int .i64 o, .int .i64 k]) ?_ rfl ?_
    · simp [results, Try.f43, asAddr, loadVar, loadCells, loadCellsFrom, Addr.add, hr0, hr1, hr2, hr3, hr4, hr5, hr6, hr7, hr8]
    · exact ⟨_, _, _, _, _, _, _, _, _, rfl, HU5.out⟩
set_option maxRecDepth 20000 in
set_option maxHeartbeats 3200000 in
theorem DrawLengthRange_c (a : Option Addr) (c : Nat) (bs : List Int) (w : World) (hc : U8At w a bs) (hl : bs.length ≤ 4096) : Calls Try.prog 13 #[.slice a bs.length c] w (WhBI w) := by
  have u1 : Upd [] w (w.alloc (.cells #[.int .i64 0, .int .i64 0, .int .i64 0, .int .i64 0, .int .i64 0, .int .i64 0, .int .i64 0, .int .i64 0, .int .i64 0] 34)) := (Upd.refl w).alloc _
  have b1 : Blk (w.alloc (.cells #[.int .i64 0, .int .i64 0, .int .i64 0, .int .i64 0, .int .i64 0, .int .i64 0, .int .i64 0, .int .i64 0, .int .i64 0] 34)) w.heap.size [0, 0, 0, 0, 0, 0, 0, 0, 0] 34 := Blk.new w [0, 0, 0, 0, 0, 0, 0, 0, 0] _
  obtain ⟨B, hB⟩ : ∃ B, w.heap.size = B := ⟨_, rfl⟩
  have s1 : (w.alloc (.cells #[.int .i64 0, .int .i64 0, .int .i64 0, .int .i64 0, .int .i64 0, .int .i64 0, .int .i64 0, .int .i64 0, .int .i64 0] 34)).heap.size = B + 1 := by simp [hB]
  rw [hB] at b1
  have HB := Lib.hid hB
  have HSz := Lib.hid s1
  have RB := Lib.hid b1
  have HC := Lib.hid (hc.kept0 u1)
  have UF := Lib.hid u1
  clear hc u1 b1 s1
  go_enter Try.func13, Try.ntmps13
  go_wp2_with fail
  try rw [hB]
  clear hB
  refine (l01From_c a c bs _ HC.out hl).mono ?_
  rintro e w1 ⟨g, rfl, hg, hd, hu⟩
  have HBg : Hid (B < g) := by have := HSz.out; show _ < _; omega
  have D := Lib.hid hd
  replace RB := Lib.hid (RB.out.kept0 hu)
  replace UF := Lib.hid (UF.out.then0 hu)
  have U : Hid (Upd [g] w1 w1) := (Upd.refl w1).mono (by simp)
  have HgB : Hid (g < w1.heap.size) := hd.lt
  replace HC := Lib.hid (HC.out.kept0 hu)
  clear hd hu hg HSz
  go_wp2_with fail
  refine (DrawSquareOfSpoke_c a c bs _ HC.out hl).mono ?_
  rintro e wn ⟨h, l, r, lo, ro, rh, d, o, k, b, rfl, hu⟩
  replace RB := Lib.hid (RB.out.kept0 hu)
  replace D := Lib.hid (D.out.kept0 hu)
  replace U := Lib.hid (U.out.then0 hu)
  clear hu HC
  have bX : Blk (wn.alloc (.cells #[.int .i64 h, .int .i64 l, .int .i64 r, .int .i64 lo, .int .i64 ro, .int .i64 rh, .int .i64 d, .int .i64 o, .int .i64 k] 34)) wn.heap.size [h, l, r, lo, ro, rh, d, o, k] 34 := Blk.new wn [h, l, r, lo, ro, rh, d, o, k] _
  have uX : Upd [] wn (wn.alloc (.cells #[.int .i64 h, .int .i64 l, .int .i64 r, .int .i64 lo, .int .i64 ro, .int .i64 rh, .int .i64 d, .int .i64 o, .int .i64 k] 34)) := (Upd.refl wn).alloc _
  have hlt := RB.out.lt
  have hgx := D.out.lt
  have hx1 := U.out.size
  replace RB := Lib.hid (RB.out.kept0 uX)
  replace D := Lib.hid (D.out.kept0 uX)
  replace U := Lib.hid (U.out.then0 uX)
  clear uX
  go_wp2_with fail
  generalize wn.alloc (.cells #[.int .i64 h, .int .i64 l, .int .i64 r, .int .i64 lo, .int .i64 ro, .int .i64 rh, .int .i64 d, .int .i64 o, .int .i64 k] 34) = w2 at bX RB D U ⊢
  generalize wn.heap.size = x at bX hlt hgx hx1 ⊢
  have X := Lib.hid bX
  have HgX := Lib.hid hgx
  have HBx := Lib.hid hlt
  have HX1 := Lib.hid hx1
  clear bX hgx hlt hx1
  refine (l01Next_c g a c bs _ _ D.out).mono ?_
  rintro e w4 ⟨y, rfl, hy, hd, hu⟩
  replace RB := Lib.hid (RB.out.kept hu (by simp; have := HBg.out; omega))
  replace X := Lib.hid (X.out.kept hu (by simp; have := HgX.out; omega))
  replace D := Lib.hid hd
  replace U := Lib.hid (U.out.then1 hu)
  clear hd hu hy
  by_cases hy : y = 0
  · subst hy
    go_wp2_with fail
    refine (l01Pick_c g a c bs _ _ [2005, 6995] _ (D.out.kept0 ((Upd.refl _).alloc _)) (lit_ints _ [2005, 6995]) (fun ad e => by cases e; exact D.out.lt) (by simp) (by simp)).mono ?_
    rintro e w6 ⟨z, rfl, -, hd, hu⟩
    replace RB := Lib.hid ((RB.out.kept0 ((Upd.refl _).alloc _)).kept hu (by simp; have := HBg.out; omega))
    replace X := Lib.hid ((X.out.kept0 ((Upd.refl _).alloc _)).kept hu (by simp; have := HgX.out; omega))
    replace D := Lib.hid hd
    replace U := Lib.hid ((U.out.alloc _).then1 hu)
    clear hd hu
    have c6 := X.out.cell (k := 6) rfl
    have f6 := X.out.free 6
    have hne : ¬ B = x := by have := HBx.out; omega
    have hneg : ¬ g = x := by have := HgX.out; omega
    have uS : Upd [x] w6 (w6.setCell ⟨x, 6, none⟩ (.int .i64 z)) := ((Upd.refl w6).mono (gs := []) (by simp)).setCell _ (.inl (by simp))
    replace RB := Lib.hid (RB.out.kept uS (by simp; exact hne))
    replace X := Lib.hid (X.out.set 6 z)
    replace D := Lib.hid (D.out.kept uS (fun k hk => by rw [List.mem_singleton.1 hk]; exact HgX.out))
    replace U := Lib.hid (U.out.afterB uS (fun k hk => by rw [List.mem_singleton.1 hk]; exact HX1.out))
    clear uS hne hneg
    go_upto_region 5 with fail
    clear c6 f6
    generalize w6.setCell ⟨x, 6, none⟩ (.int .i64 z) = w5 at RB X D U ⊢
    have hgx := HgX.out
    have hBx := HBx.out
    have HS : Hid (∀ w', Upd [g, B] w5 w' → w'.cell? ⟨x, 0, none⟩ = some (.int .i64 h) ∧ w'.cell? ⟨x, 1, none⟩ = some (.int .i64 l) ∧ w'.cell? ⟨x, 2, none⟩ = some (.int .i64 r) ∧ w'.cell? ⟨x, 3, none⟩ = some (.int .i64 lo) ∧ w'.cell? ⟨x, 4, none⟩ = some (.int .i64 ro) ∧ w'.cell? ⟨x, 5, none⟩ = some (.int .i64 rh) ∧ w'.cell? ⟨x, 6, none⟩ = some (.int .i64 z) ∧ w'.cell? ⟨x, 7, none⟩ = some (.int .i64 o) ∧ w'.cell? ⟨x, 8, none⟩ = some (.int .i64 k)) := fun w' u => by
      have b := X.out.kept u (by simp; omega)
      exact ⟨b.cell rfl, b.cell rfl, b.cell rfl, b.cell rfl, b.cell rfl, b.cell rfl, b.cell rfl, b.cell rfl, b.cell rfl⟩
    have V0 : Hid (Upd [g] w5 w5.drew) := (Upd.refl w5).drew.mono (by simp)
    have D0 := Lib.hid (D.out.kept0 (Upd.refl w5).drew)
    have MB : ∀ w', Upd [g] w5 w' → Upd [g, B] w5 w' := fun w' u => u.mono (by simp)
    have HS0 := Lib.hid (HS.out _ (MB _ V0.out))
    have HS1 := Lib.hid (HS.out _ ((Upd.refl w5).mono (by simp)))
    obtain ⟨hs0, hs1, hs2, hs3, hs4, hs5, hs6, hs7, hs8⟩ := HS1.out
    clear hgx hBx
    go_region_held3 (fun w' => w'.cell? ⟨x, 0, none⟩ = some (.int .i64 h) ∧ w'.cell? ⟨x, 1, none⟩ = some (.int .i64 l) ∧ w'.cell? ⟨x, 2, none⟩ = some (.int .i64 r) ∧ w'.cell? ⟨x, 3, none⟩ = some (.int .i64 lo) ∧ w'.cell? ⟨x, 4, none⟩ = some (.int .i64 ro) ∧ w'.cell? ⟨x, 5, none⟩ = some (.int .i64 rh) ∧ w'.cell? ⟨x, 6, none⟩ = some (.int .i64 z) ∧ w'.cell? ⟨x, 7, none⟩ = some (.int .i64 o) ∧ w'.cell? ⟨x, 8, none⟩ = some (.int .i64 k))
      (first | with_reducible exact HS0.out | with_reducible exact HS1.out | with_reducible exact HS2.out | with_reducible exact HS3.out | with_reducible exact HS4.out | with_reducible exact HS5.out)
      (first
        | (go_at_call 36
           refine (l01Pick_c g a c bs _ _ [x1, 0, 20, 21, -1] _ (D1.out.kept0 ((Upd.refl _).alloc _)) (lit_ints w12 [x1, 0, 20, 21, -1]) (fun ad e => by cases e; exact D1.out.lt) (by simp) (by simp)).mono ?_
           rintro e w13 ⟨t, rfl, -, hd, hu⟩
           have V3 := Lib.hid ((V1.out.alloc _).then1 hu)
           have U3 := Lib.hid (U.out.then1 V3.out)
           clear hd hu
           have HS4 := Lib.hid (HS.out _ (MB _ V3.out))
           have HS5 := Lib.hid (HS.out _ ((MB _ V3.out).chain9 (B := B) (v0 := .int .i64 h) (v1 := .int .i64 l) (v2 := .int .i64 r) (v3 := .int .i64 lo) (v4 := .int .i64 ro) (v5 := .int .i64 rh) (v6 := .int .i64 z) (v7 := .int .i64 o) (v8 := .int .i64 k) (.inl (by simp))))
           have RB4 := Lib.hid (RB.out.kept V3.out (by simp; have := HBg.out; omega))
           have m0 := RB4.out.cell (k := 0) rfl
           have f0 := RB4.out.free 0
           have m1 := RB4.out.cell (k := 1) rfl
           have f1 := RB4.out.free 1
           have m2 := RB4.out.cell (k := 2) rfl
           have f2 := RB4.out.free 2
           have m3 := RB4.out.cell (k := 3) rfl
           have f3 := RB4.out.free 3
           have m4 := RB4.out.cell (k := 4) rfl
           have f4 := RB4.out.free 4
           have m5 := RB4.out.cell (k := 5) rfl
           have f5 := RB4.out.free 5
           have m6 := RB4.out.cell (k := 6) rfl
           have f6 := RB4.out.free 6
           have m7 := RB4.out.cell (k := 7) rfl
           have f7 := RB4.out.free 7
           have m8 := RB4.out.cell (k := 8) rfl
           have f8 := RB4.out.free 8)
        | (go_at_call 35
           refine (l01Next_c g a c bs _ _ D0.out).mono ?_
           rintro e w12 ⟨x1, rfl, hx1, hd, hu⟩
           have D1 := Lib.hid hd
           have V1 := Lib.hid (V0.out.then1 hu)
           have HS2 := Lib.hid (HS.out _ (MB _ V1.out))
           have HS3 := Lib.hid (HS.out _ (MB _ (V1.out.alloc (.cells #[.int .i64 x1, .int .i64 0, .int .i64 20, .int .i64 21, .int .i64 (-1)] 2))))
           clear hd hu hx1))
    all_goals
      clear m0 f0 m1 f1 m2 f2 m3 f3 m4 f4 m5 f5 m6 f6 m7 f7 m8 f8 HS HS0 HS1 HS2 HS3 MB V0 V1 HS4 HS5 hs0 hs1 hs2 hs3 hs4 hs5 hs6 hs7 hs8
      have b5 := Lib.hid (((((((((RB4.out.set 0 h).set 1 l).set 2 r).set 3 lo).set 4 ro).set 5 rh).set 6 z).set 7 o).set 8 k)
      have u5 : Upd [B] w13 _ := ((Upd.refl w13).mono (gs := []) (hs := [B]) (by simp)).chain9 (B := B) (v0 := .int .i64 h) (v1 := .int .i64 l) (v2 := .int .i64 r) (v3 := .int .i64 lo) (v4 := .int .i64 ro) (v5 := .int .i64 rh) (v6 := .int .i64 z) (v7 := .int .i64 o) (v8 := .int .i64 k) (.inl (by simp))
      have HU5 : Hid (Upd [] w _) := (UF.out.after0 U3.out (fun k hk => by rw [List.mem_singleton.1 hk, HB.out]; have := HBg.out; omega)).after0 u5 (fun k hk => by rw [List.mem_singleton.1 hk, HB.out]; exact Nat.le_refl _)
      clear u5
      have hr0 := b5.out.cell (k := 0) rfl
      have hr1 := b5.out.cell (k := 1) rfl
      have hr2 := b5.out.cell (k := 2) rfl
      have hr3 := b5.out.cell (k := 3) rfl
      have hr4 := b5.out.cell (k := 4) rfl
      have hr5 := b5.out.cell (k := 5) rfl
      have hr6 := b5.out.cell (k := 6) rfl
      have hr7 := b5.out.cell (k := 7) rfl
      have hr8 := b5.out.cell (k := 8) rfl
      go_wp2_with fail
      refine bodyPost_ret (v := .tuple #[.agg #[.int .i64 h, .int .i64 l, .int .i64 r, .int .i64 lo, .int .i64 ro, .int .i64 rh, .int .i64 z, .int .i64 o, .int .i64 k], .bool b, .int .i64 t]) ?_ rfl ?_
      · simp [results, Try.f13, asAddr, loadVar, loadCells, loadCellsFrom, Addr.add, hr0, hr1, hr2, hr3, hr4, hr5, hr6, hr7, hr8]
      · exact ⟨_, _, _, _, _, _, _, _, _, _, _, rfl, HU5.out⟩
  · go_upto_region 5 with fail
    clear hy
    obtain ⟨w5, ew⟩ : ∃ x : World, x = w4 := ⟨_, rfl⟩
    subst ew
    have hgx := HgX.out
    have hBx := HBx.out
    have HS : Hid (∀ w', Upd [g, B] w5 w' → w'.cell? ⟨x, 0, none⟩ = some (.int .i64 h) ∧ w'.cell? ⟨x, 1, none⟩ = some (.int .i64 l) ∧ w'.cell? ⟨x, 2, none⟩ = some (.int .i64 r) ∧ w'.cell? ⟨x, 3, none⟩ = some (.int .i64 lo) ∧ w'.cell? ⟨x, 4, none⟩ = some (.int .i64 ro) ∧ w'.cell? ⟨x, 5, none⟩ = some (.int .i64 rh) ∧ w'.cell? ⟨x, 6, none⟩ = some (.int .i64 d) ∧ w'.cell? ⟨x, 7, none⟩ = some (.int .i64 o) ∧ w'.cell? ⟨x, 8, none⟩ = some (.int .i64 k)) := fun w' u => by
      have b := X.out.kept u (by simp; omega)
      exact ⟨b.cell rfl, b.cell rfl, b.cell rfl, b.cell rfl, b.cell rfl, b.cell rfl, b.cell rfl, b.cell rfl, b.cell rfl⟩
    have V0 : Hid (Upd [g] w5 w5.drew) := (Upd.refl w5).drew.mono (by simp)
    have D0 := Lib.hid (D.out.kept0 (Upd.refl w5).drew)
    have MB : ∀ w', Upd [g] w5 w' → Upd [g, B] w5 w' := fun w' u => u.mono (by simp)
    have HS0 := Lib.hid (HS.out _ (MB _ V0.out))
    have HS1 := Lib.hid (HS.out _ ((Upd.refl w5).mono (by simp)))
    obtain ⟨hs0, hs1, hs2, hs3, hs4, hs5, hs6, hs7, hs8⟩ := HS1.out
    clear hgx hBx
    go_region_held3 (fun w' => w'.cell? ⟨x, 0, none⟩ = some (.int .i64 h) ∧ w'.cell? ⟨x, 1, none⟩ = some (.int .i64 l) ∧ w'.cell? ⟨x, 2, none⟩ = some (.int .i64 r) ∧ w'.cell? ⟨x, 3, none⟩ = some (.int .i64 lo) ∧ w'.cell? ⟨x, 4, none⟩ = some (.int .i64 ro) ∧ w'.cell? ⟨x, 5, none⟩ = some (.int .i64 rh) ∧ w'.cell? ⟨x, 6, none⟩ = some (.int .i64 d) ∧ w'.cell? ⟨x, 7, none⟩ = some (.int .i64 o) ∧ w'.cell? ⟨x, 8, none⟩ = some (.int .i64 k))
      (first | with_reducible exact HS0.out | with_reducible exact HS1.out | with_reducible exact HS2.out | with_reducible exact HS3.out | with_reducible exact HS4.out | with_reducible exact HS5.out)
      (first
        | (go_at_call 36
           refine (l01Pick_c g a c bs _ _ [x1, 0, 20, 21, -1] _ (D1.out.kept0 ((Upd.refl _).alloc _)) (lit_ints w12 [x1, 0, 20, 21, -1]) (fun ad e => by cases e; exact D1.out.lt) (by simp) (by simp)).mono ?_
           rintro e w13 ⟨t, rfl, -, hd, hu⟩
           have V3 := Lib.hid ((V1.out.alloc _).then1 hu)
           have U3 := Lib.hid (U.out.then1 V3.out)
           clear hd hu
           have HS4 := Lib.hid (HS.out _ (MB _ V3.out))
           have HS5 := Lib.hid (HS.out _ ((MB _ V3.out).chain9 (B := B) (v0 := .int .i64 h) (v1 := .int .i64 l) (v2 := .int .i64 r) (v3 := .int .i64 lo) (v4 := .int .i64 ro) (v5 := .int .i64 rh) (v6 := .int .i64 d) (v7 := .int .i64 o) (v8 := .int .i64 k) (.inl (by simp))))
           have RB4 := Lib.hid (RB.out.kept V3.out (by simp; have := HBg.out; omega))
           have m0 := RB4.out.cell (k := 0) rfl
           have f0 := RB4.out.free 0
           have m1 := RB4.out.cell (k := 1) rfl
           have f1 := RB4.out.free 1
           have m2 := RB4.out.cell (k := 2) rfl
           have f2 := RB4.out.free 2
           have m3 := RB4.out.cell (k := 3) rfl
           have f3 := RB4.out.free 3
           have m4 := RB4.out.cell (k := 4) rfl
           have f4 := RB4.out.free 4
           have m5 := RB4.out.cell (k := 5) rfl
           have f5 := RB4.out.free 5
           have m6 := RB4.out.cell (k := 6) rfl
           have f6 := RB4.out.free 6
           have m7 := RB4.out.cell (k := 7) rfl
           have f7 := RB4.out.free 7
           have m8 := RB4.out.cell (k := 8) rfl
           have f8 := RB4.out.free 8)
        | (go_at_call 35
           refine (l01Next_c g a c bs _ _ D0.out).mono ?_
           rintro e w12 ⟨x1, rfl, hx1, hd, hu⟩
           have D1 := Lib.hid hd
           have V1 := Lib.hid (V0.out.then1 hu)
           have HS2 := Lib.hid (HS.out _ (MB _ V1.out))
           have HS3 := Lib.hid (HS.out _ (MB _ (V1.out.alloc (.cells #[.int .i64 x1, .int .i64 0, .int .i64 20, .int .i64 21, .int .i64 (-1)] 2))))
           clear hd hu hx1))
    all_goals
      clear m0 f0 m1 f1 m2 f2 m3 f3 m4 f4 m5 f5 m6 f6 m7 f7 m8 f8 HS HS0 HS1 HS2 HS3 MB V0 V1 HS4 HS5 hs0 hs1 hs2 hs3 hs4 hs5 hs6 hs7 hs8
      have b5 := Lib.hid (((((((((RB4.out.set 0 h).set 1 l).set 2 r).set 3 lo).set 4 ro).set 5 rh).set 6 d).set 7 o).set 8 k)
      have u5 : Upd [B] w13 _ := ((Upd.refl w13).mono (gs := []) (hs := [B]) (by simp)).chain9 (B := B) (v0 := .int .i64 h) (v1 := .int .i64 l) (v2 := .int .i64 r) (v3 := .int .i64 lo) (v4 := .int .i64 ro) (v5 := .int .i64 rh) (v6 := .int .i64 d) (v7 := .int .i64 o) (v8 := .int .i64 k) (.inl (by simp))
      have HU5 : Hid (Upd [] w _) := (UF.out.after0 U3.out (fun k hk => by rw [List.mem_singleton.1 hk, HB.out]; have := HBg.out; omega)).after0 u5 (fun k hk => by rw [List.mem_singleton.1 hk, HB.out]; exact Nat.le_refl _)
      clear u5
      have hr0 := b5.out.cell (k := 0) rfl
      have hr1 := b5.out.cell (k := 1) rfl
      have hr2 := b5.out.cell (k := 2) rfl
      have hr3 := b5.out.cell (k := 3) rfl
      have hr4 := b5.out.cell (k := 4) rfl
      have hr5 := b5.out.cell (k := 5) rfl
      have hr6 := b5.out.cell (k := 6) rfl
      have hr7 := b5.out.cell (k := 7) rfl
      have hr8 := b5.out.cell (k := 8) rfl
      go_wp2_with fail
      refine bodyPost_ret (v := .tuple #[.agg #[.int .i64 h, .int .i64 l, .int .i64 r, .int .i64 lo, .int .i64 ro, .int .i64 rh, .int .i64 d, .int .i64 o, .int .i64 k], .bool b, .int .i64 t]) ?_ rfl ?_
      · simp [results, Try.f13, asAddr, loadVar, loadCells, loadCellsFrom, Addr.add, hr0, hr1, hr2, hr3, hr4, hr5, hr6, hr7, hr8]
      · exact ⟨_, _, _, _, _, _, _, _, _, _, _, rfl, HU5.out⟩
end Go.Proofs.Ytbjeaadnanimfaa
