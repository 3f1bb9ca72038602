/- Chapter 4: mirrored wheels. -/
import Derived.Test.YtbjeaadnanimfaaSpoke2
namespace Go.Proofs.Ytbjeaadnanimfaa
open Go.RowKit Go.Sort
set_option linter.unusedVariables false
set_option linter.unusedSimpArgs false

set_option maxRecDepth 20000 in
set_option maxHeartbeats 800000 in
theorem mirrored_c (h l r lo ro : Int) (w : World) : Calls Try.prog 53 #[.agg #[.int .i64 h, .int .i64 l, .int .i64 r, .int .i64 lo, .int .i64 ro]] w fun e w' => e = .returned (.agg #[.int .i64 h, .int .i64 r, .int .i64 l, .int .i64 ro, .int .i64 lo]) ∧ Upd [] w w' := by
  have b1 : Blk (w.alloc (.cells #[.int .i64 h, .int .i64 l, .int .i64 r, .int .i64 lo, .int .i64 ro] 30)) w.heap.size [h, l, r, lo, ro] 30 := Blk.new w [h, l, r, lo, ro] _
  have u1 : Upd [] w (w.alloc (.cells #[.int .i64 h, .int .i64 l, .int .i64 r, .int .i64 lo, .int .i64 ro] 30)) := (Upd.refl w).alloc _
  have hs : (w.alloc (.cells #[.int .i64 h, .int .i64 l, .int .i64 r, .int .i64 lo, .int .i64 ro] 30)).heap.size = w.heap.size + 1 := by simp
  have b2 : Blk ((w.alloc (.cells #[.int .i64 h, .int .i64 l, .int .i64 r, .int .i64 lo, .int .i64 ro] 30)).alloc (.cells #[.int .i64 0, .int .i64 0, .int .i64 0, .int .i64 0, .int .i64 0] 30)) (w.alloc (.cells #[.int .i64 h, .int .i64 l, .int .i64 r, .int .i64 lo, .int .i64 ro] 30)).heap.size [0, 0, 0, 0, 0] 30 := Blk.new _ [0, 0, 0, 0, 0] _
  rw [hs] at b2
  have u2 : Upd [] (w.alloc (.cells #[.int .i64 h, .int .i64 l, .int .i64 r, .int .i64 lo, .int .i64 ro] 30)) ((w.alloc (.cells #[.int .i64 h, .int .i64 l, .int .i64 r, .int .i64 lo, .int .i64 ro] 30)).alloc (.cells #[.int .i64 0, .int .i64 0, .int .i64 0, .int .i64 0, .int .i64 0] 30)) := (Upd.refl _).alloc _
  have b3 := b1.kept0 u2
  have c0 := b3.cell (k := 0) rfl
  have m0 := b2.cell (k := 0) rfl
  have f0 := b2.free 0
  have c1 := b3.cell (k := 1) rfl
  have m1 := b2.cell (k := 1) rfl
  have f1 := b2.free 1
  have c2 := b3.cell (k := 2) rfl
  have m2 := b2.cell (k := 2) rfl
  have f2 := b2.free 2
  have c3 := b3.cell (k := 3) rfl
  have m3 := b2.cell (k := 3) rfl
  have f3 := b2.free 3
  have c4 := b3.cell (k := 4) rfl
  have m4 := b2.cell (k := 4) rfl
  have f4 := b2.free 4
  have bf := (((((b2.set 0 (h)).set 1 (r)).set 2 (l)).set 3 (ro)).set 4 (lo))
  have hr0 := bf.cell (k := 0) (x := h) rfl
  have hr1 := bf.cell (k := 1) (x := r) rfl
  have hr2 := bf.cell (k := 2) (x := l) rfl
  have hr3 := bf.cell (k := 3) (x := ro) rfl
  have hr4 := bf.cell (k := 4) (x := lo) rfl
  have HU := Lib.hid (u1.then0 u2)
  clear b1 u1 hs b2 u2 b3 bf
  go_enter Try.func53, Try.ntmps53
  go_wp2_with fail
  refine bodyPost_ret (v := .agg #[.int .i64 h, .int .i64 r, .int .i64 l, .int .i64 ro, .int .i64 lo]) ?_ rfl ?_
  · simp [results, Try.f53, asAddr, loadVar, loadCells, loadCellsFrom, Addr.add, hr0, hr1, hr2, hr3, hr4]
  · refine ⟨rfl, ?_⟩
    exact ((Upd.refl w).alloc _).alloc _
set_option maxRecDepth 20000 in
set_option maxHeartbeats 1600000 in
theorem iMirrorWheel_c (h l r lo ro rh d o k : Int) (w : World) (hW : whB h l r lo ro rh d o k = true) : Calls Try.prog 26 #[.agg #[.int .i64 h, .int .i64 l, .int .i64 r, .int .i64 lo, .int .i64 ro, .int .i64 rh, .int .i64 d, .int .i64 o, .int .i64 k]] w fun e w' => e = .returned (.tuple #[.agg #[.int .i64 h, .int .i64 r, .int .i64 l, .int .i64 ro, .int .i64 lo, .int .i64 rh, .int .i64 d, .int .i64 (-o), .int .i64 k], .int .i64 0]) ∧ Upd [] w w' := by
  obtain ⟨-, -, -, -, -, -, ho, -⟩ := whB_t hW
  have hq : IntKind.i64.wrap (-o) = -o := IntWalk.i64_in _ (by omega)
  clear ho
  have b1 : Blk (w.alloc (.cells #[.int .i64 h, .int .i64 l, .int .i64 r, .int .i64 lo, .int .i64 ro, .int .i64 rh, .int .i64 d, .int .i64 o, .int .i64 k] 34)) w.heap.size [h, l, r, lo, ro, rh, d, o, k] 34 := Blk.new w [h, l, r, lo, ro, rh, d, o, k] _
  have u1 : Upd [] w (w.alloc (.cells #[.int .i64 h, .int .i64 l, .int .i64 r, .int .i64 lo, .int .i64 ro, .int .i64 rh, .int .i64 d, .int .i64 o, .int .i64 k] 34)) := (Upd.refl w).alloc _
  have hs : (w.alloc (.cells #[.int .i64 h, .int .i64 l, .int .i64 r, .int .i64 lo, .int .i64 ro, .int .i64 rh, .int .i64 d, .int .i64 o, .int .i64 k] 34)).heap.size = w.heap.size + 1 := by simp
  have b2 : Blk ((w.alloc (.cells #[.int .i64 h, .int .i64 l, .int .i64 r, .int .i64 lo, .int .i64 ro, .int .i64 rh, .int .i64 d, .int .i64 o, .int .i64 k] 34)).alloc (.cells #[.int .i64 0, .int .i64 0, .int .i64 0, .int .i64 0, .int .i64 0, .int .i64 0, .int .i64 0, .int .i64 0, .int .i64 0] 34)) (w.alloc (.cells #[.int .i64 h, .int .i64 l, .int .i64 r, .int .i64 lo, .int .i64 ro, .int .i64 rh, .int .i64 d, .int .i64 o, .int .i64 k] 34)).heap.size [0, 0, 0, 0, 0, 0, 0, 0, 0] 34 := Blk.new _ [0, 0, 0, 0, 0, 0, 0, 0, 0] _
  rw [hs] at b2
  have u2 : Upd [] (w.alloc (.cells #[.int .i64 h, .int .i64 l, .int .i64 r, .int .i64 lo, .int .i64 ro, .int .i64 rh, .int .i64 d, .int .i64 o, .int .i64 k] 34)) ((w.alloc (.cells #[.int .i64 h, .int .i64 l, .int .i64 r, .int .i64 lo, .int .i64 ro, .int .i64 rh, .int .i64 d, .int .i64 o, .int .i64 k] 34)).alloc (.cells #[.int .i64 0, .int .i64 0, .int .i64 0, .int .i64 0, .int .i64 0, .int .i64 0, .int .i64 0, .int .i64 0, .int .i64 0] 34)) := (Upd.refl _).alloc _
  have BX := Lib.hid (b1.kept0 u2)
  have BY := Lib.hid b2
  have U := Lib.hid (u1.then0 u2)
  have c0 := BX.out.cell (k := 0) rfl
  have c1 := BX.out.cell (k := 1) rfl
  have c2 := BX.out.cell (k := 2) rfl
  have c3 := BX.out.cell (k := 3) rfl
  have c4 := BX.out.cell (k := 4) rfl
  have c5 := BX.out.cell (k := 5) rfl
  have c6 := BX.out.cell (k := 6) rfl
  have c7 := BX.out.cell (k := 7) rfl
  have c8 := BX.out.cell (k := 8) rfl
  clear b1 u1 hs b2 u2
  go_enter Try.func26, Try.ntmps26
  go_wp2_with fail
  clear c0 c1 c2 c3 c4 c5 c6 c7 c8
  generalize (w.alloc (.cells #[.int .i64 h, .int .i64 l, .int .i64 r, .int .i64 lo, .int .i64 ro, .int .i64 rh, .int .i64 d, .int .i64 o, .int .i64 k] 34)).alloc (.cells #[.int .i64 0, .int .i64 0, .int .i64 0, .int .i64 0, .int .i64 0, .int .i64 0, .int .i64 0, .int .i64 0, .int .i64 0] 34) = w1 at BX BY U ⊢
  refine (iIsWheel_c _ _ _ _ _ _ _ _ _ _).mono ?_
  rintro e w2 ⟨rfl, hu⟩
  rw [hW]
  replace BX := Lib.hid (BX.out.kept0 hu)
  replace BY := Lib.hid (BY.out.kept0 hu)
  replace U := Lib.hid (U.out.then0 hu)
  clear hu hW
  have c0 := BX.out.cell (k := 0) rfl
  have c1 := BX.out.cell (k := 1) rfl
  have c2 := BX.out.cell (k := 2) rfl
  have c3 := BX.out.cell (k := 3) rfl
  have c4 := BX.out.cell (k := 4) rfl
  have c5 := BX.out.cell (k := 5) rfl
  have c6 := BX.out.cell (k := 6) rfl
  have c7 := BX.out.cell (k := 7) rfl
  have c8 := BX.out.cell (k := 8) rfl
  go_wp2_with fail
  clear c0 c1 c2 c3 c4 c5 c6 c7 c8
  refine (mirrored_c _ _ _ _ _ _).mono ?_
  rintro e w3 ⟨rfl, hu⟩
  replace BX := Lib.hid (BX.out.kept0 hu)
  replace BY := Lib.hid (BY.out.kept0 hu)
  replace U := Lib.hid (U.out.then0 hu)
  clear hu
  have c0 := BX.out.cell (k := 0) rfl
  have f0 := BX.out.free 0
  have c1 := BX.out.cell (k := 1) rfl
  have f1 := BX.out.free 1
  have c2 := BX.out.cell (k := 2) rfl
  have f2 := BX.out.free 2
  have c3 := BX.out.cell (k := 3) rfl
  have f3 := BX.out.free 3
  have c4 := BX.out.cell (k := 4) rfl
  have f4 := BX.out.free 4
  have c5 := BX.out.cell (k := 5) rfl
  have f5 := BX.out.free 5
  have c6 := BX.out.cell (k := 6) rfl
  have f6 := BX.out.free 6
  have c7 := BX.out.cell (k := 7) rfl
  have f7 := BX.out.free 7
  have c8 := BX.out.cell (k := 8) rfl
  have f8 := BX.out.free 8
  have m0 := BY.out.cell (k := 0) rfl
  have g0 := BY.out.free 0
  have m1 := BY.out.cell (k := 1) rfl
  have g1 := BY.out.free 1
  have m2 := BY.out.cell (k := 2) rfl
  have g2 := BY.out.free 2
  have m3 := BY.out.cell (k := 3) rfl
  have g3 := BY.out.free 3
  have m4 := BY.out.cell (k := 4) rfl
  have g4 := BY.out.free 4
  have m5 := BY.out.cell (k := 5) rfl
  have g5 := BY.out.free 5
  have m6 := BY.out.cell (k := 6) rfl
  have g6 := BY.out.free 6
  have m7 := BY.out.cell (k := 7) rfl
  have g7 := BY.out.free 7
  have m8 := BY.out.cell (k := 8) rfl
  have g8 := BY.out.free 8
  have u3 : Upd [w.heap.size] w3 ((((((w3.setCell ⟨w.heap.size, 0, none⟩ (.int .i64 h)).setCell ⟨w.heap.size, 1, none⟩ (.int .i64 r)).setCell ⟨w.heap.size, 2, none⟩ (.int .i64 l)).setCell ⟨w.heap.size, 3, none⟩ (.int .i64 ro)).setCell ⟨w.heap.size, 4, none⟩ (.int .i64 lo)).setCell ⟨w.heap.size, 7, none⟩ (.int .i64 (-o))) := ((((((((Upd.refl w3).mono (gs := []) (by simp)).setCell _ (.inl (by simp))).setCell _ (.inl (by simp))).setCell _ (.inl (by simp))).setCell _ (.inl (by simp))).setCell _ (.inl (by simp))).setCell _ (.inl (by simp)))
  have b3 := ((((((BX.out.set 0 (h)).set 1 (r)).set 2 (l)).set 3 (ro)).set 4 (lo)).set 7 (-o))
  have b4 := BY.out.kept u3 (by simp)
  have b5 := (((((((((b4.set 0 (h)).set 1 (r)).set 2 (l)).set 3 (ro)).set 4 (lo)).set 5 (rh)).set 6 (d)).set 7 ((-o))).set 8 (k))
  have hr0 := b5.cell (k := 0) (x := h) rfl
  have hr1 := b5.cell (k := 1) (x := r) rfl
  have hr2 := b5.cell (k := 2) (x := l) rfl
  have hr3 := b5.cell (k := 3) (x := ro) rfl
  have hr4 := b5.cell (k := 4) (x := lo) rfl
  have hr5 := b5.cell (k := 5) (x := rh) rfl
  have hr6 := b5.cell (k := 6) (x := d) rfl
  have hr7 := b5.cell (k := 7) (x := (-o)) rfl
  have hr8 := b5.cell (k := 8) (x := k) rfl
  go_wp2_with fail
  refine bodyPost_ret (v := .tuple #[.agg #[.int .i64 h, .int .i64 r, .int .i64 l, .int .i64 ro, .int .i64 lo, .int .i64 rh, .int .i64 d, .int .i64 (-o), .int .i64 k], .int .i64 0]) ?_ rfl ?_
  · simp [results, Try.f26, asAddr, loadVar, loadCells, loadCellsFrom, Addr.add, hr0, hr1, hr2, hr3, hr4, hr5, hr6, hr7, hr8]
  · refine ⟨rfl, ?_⟩
    exact ((((((((((U.out.after0 u3 (by simp)).setCell _ (.inr (by simp))).setCell _ (.inr (by simp))).setCell _ (.inr (by simp))).setCell _ (.inr (by simp))).setCell _ (.inr (by simp))).setCell _ (.inr (by simp))).setCell _ (.inr (by simp))).setCell _ (.inr (by simp))).setCell _ (.inr (by simp)))
end Go.Proofs.Ytbjeaadnanimfaa
