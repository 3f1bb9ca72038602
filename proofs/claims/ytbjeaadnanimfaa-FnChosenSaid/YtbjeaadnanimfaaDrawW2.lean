/- Chapter 4: the draws of hubs and rims. -/
import Derived.Test.YtbjeaadnanimfaaDrawW
import Derived.Deep.CutBlock
namespace Go.Proofs.Ytbjeaadnanimfaa
open Go.RowKit Go.Sort
set_option linter.unusedVariables false
set_option linter.unusedSimpArgs false

set_option maxRecDepth 20000 in
set_option maxHeartbeats 1600000 in
theorem l04Draw_c (g : Nat) (a : Option Addr) (c : Nat) (bs : List Int) (w : World) (h : DC w g a c bs) : Calls Try.prog 71 #[.pointer (some ⟨g, 0, none⟩)] w (HubP w g a c bs) := by
  have hgB := h.lt
  have u1 : Upd [] w (w.alloc (.cells #[.int .i64 0, .int .i64 0, .int .i64 0, .int .i64 0, .int .i64 0] 30)) := (Upd.refl w).alloc _
  have b1 : Blk (w.alloc (.cells #[.int .i64 0, .int .i64 0, .int .i64 0, .int .i64 0, .int .i64 0] 30)) w.heap.size [0, 0, 0, 0, 0] 30 := Blk.new w [0, 0, 0, 0, 0] _
  obtain ⟨B, hB⟩ : ∃ B, w.heap.size = B := ⟨_, rfl⟩
  rw [hB] at hgB b1
  have HgB := Lib.hid hgB
  have HSz : Hid ((w.alloc (.cells #[.int .i64 0, .int .i64 0, .int .i64 0, .int .i64 0, .int .i64 0] 30)).heap.size = B + 1) := by show _ = _; simp [hB]
  have HB := Lib.hid hB
  have RB := Lib.hid b1
  have D := Lib.hid (h.kept0 u1)
  have U : Hid (Upd [g] w (w.alloc (.cells #[.int .i64 0, .int .i64 0, .int .i64 0, .int .i64 0, .int .i64 0] 30))) := u1.mono (by simp)
  clear h u1 b1 hgB
  go_enter Try.func71, Try.ntmps71
  go_wp2_with fail
  try rw [hB]
  clear hB
  refine (l04Good_c g a c bs _ D.out).mono ?_
  rintro e wn ⟨h, l, r, lo, ro, rfl, hd, hu⟩
  replace RB := Lib.hid (RB.out.kept hu (by simp; have := HgB.out; omega))
  replace D := Lib.hid hd
  replace U := Lib.hid (U.out.then1 hu)
  clear hd hu
  have bX : Blk (wn.alloc (.cells #[.int .i64 h, .int .i64 l, .int .i64 r, .int .i64 lo, .int .i64 ro] 30)) wn.heap.size [h, l, r, lo, ro] 30 := Blk.new wn [h, l, r, lo, ro] _
  have uX : Upd [] wn (wn.alloc (.cells #[.int .i64 h, .int .i64 l, .int .i64 r, .int .i64 lo, .int .i64 ro] 30)) := (Upd.refl wn).alloc _
  have hlt := RB.out.lt
  have hgx := D.out.lt
  replace RB := Lib.hid (RB.out.kept0 uX)
  replace D := Lib.hid (D.out.kept0 uX)
  replace U := Lib.hid (U.out.then0 uX)
  clear uX
  go_wp2_with fail
  generalize wn.alloc (.cells #[.int .i64 h, .int .i64 l, .int .i64 r, .int .i64 lo, .int .i64 ro] 30) = w2 at bX RB D U ⊢
  generalize wn.heap.size = x at bX hlt hgx ⊢
  have X := Lib.hid bX
  have HgX := Lib.hid hgx
  have HBx := Lib.hid hlt
  clear bX hgx hlt
  refine (l01Next_c g a c bs _ _ D.out).mono ?_
  rintro e wn ⟨k, rfl, hk, hd, hu⟩
  replace RB := Lib.hid (RB.out.kept hu (by simp; have := HgB.out; omega))
  replace X := Lib.hid (X.out.kept hu (by simp; have := HgX.out; omega))
  replace D := Lib.hid hd
  replace U := Lib.hid (U.out.then1 hu)
  clear hd hu
  clear hk
  by_cases k0 : k = 0
  · subst k0
    go_wp2_with fail
    refine (l01Pick_c g a c bs _ _ [28, 0, 40, 18] _ (D.out.kept0 ((Upd.refl _).alloc _)) (lit_ints _ [28, 0, 40, 18]) (fun ad e => by cases e; exact D.out.lt) (by simp) (by simp)).mono ?_
    rintro e wn ⟨z, rfl, hz, hd, hu⟩
    replace RB := Lib.hid ((RB.out.kept0 ((Upd.refl _).alloc _)).kept hu (by simp; have := HgB.out; omega))
    replace X := Lib.hid ((X.out.kept0 ((Upd.refl _).alloc _)).kept hu (by simp; have := HgX.out; omega))
    replace D := Lib.hid hd
    replace U := Lib.hid ((U.out.alloc _).then1 hu)
    clear hd hu hz
    have cX0 := X.out.cell (k := 0) rfl
    have m0 := RB.out.cell (k := 0) rfl
    have f0 := RB.out.free 0
    have cX1 := X.out.cell (k := 1) rfl
    have m1 := RB.out.cell (k := 1) rfl
    have f1 := RB.out.free 1
    have cX2 := X.out.cell (k := 2) rfl
    have m2 := RB.out.cell (k := 2) rfl
    have f2 := RB.out.free 2
    have cX3 := X.out.cell (k := 3) rfl
    have m3 := RB.out.cell (k := 3) rfl
    have f3 := RB.out.free 3
    have cX4 := X.out.cell (k := 4) rfl
    have m4 := RB.out.cell (k := 4) rfl
    have f4 := RB.out.free 4
    have hBx := HBx.out
    have hgx := HgX.out
    have n1 : ¬ x = B := by omega
    have n2 : ¬ B = x := by omega
    have fX := X.out.free 0
    have uS : Upd [x] wn (wn.setCell ⟨x, 0, none⟩ (.int .i64 (z))) := ((Upd.refl wn).mono (gs := []) (by simp)).setCell _ (.inl (by simp))
    have RB2 := RB.out.kept uS (by simp; omega)
    have D2 := D.out.kept uS (fun k hk => by rw [List.mem_singleton.1 hk]; exact hgx)
    have U2 : Upd [g] w (wn.setCell ⟨x, 0, none⟩ (.int .i64 (z))) := U.out.afterB uS (fun k hk => by rw [List.mem_singleton.1 hk, HB.out]; omega)
    have b5 := (((((RB2.set 0 (z)).set 1 (l)).set 2 (r)).set 3 (lo)).set 4 (ro))
    have hr0 := b5.cell (k := 0) (x := z) rfl
    have hr1 := b5.cell (k := 1) (x := l) rfl
    have hr2 := b5.cell (k := 2) (x := r) rfl
    have hr3 := b5.cell (k := 3) (x := lo) rfl
    have hr4 := b5.cell (k := 4) (x := ro) rfl
    have u5 : Upd [B] (wn.setCell ⟨x, 0, none⟩ (.int .i64 (z))) ((((((wn.setCell ⟨x, 0, none⟩ (.int .i64 (z))).setCell ⟨B, 0, none⟩ (.int .i64 (z))).setCell ⟨B, 1, none⟩ (.int .i64 (l))).setCell ⟨B, 2, none⟩ (.int .i64 (r))).setCell ⟨B, 3, none⟩ (.int .i64 (lo))).setCell ⟨B, 4, none⟩ (.int .i64 (ro))) := (((((((Upd.refl (wn.setCell ⟨x, 0, none⟩ (.int .i64 (z)))).mono (gs := []) (hs := [B]) (by simp)).setCell _ (.inl (by simp))).setCell _ (.inl (by simp))).setCell _ (.inl (by simp))).setCell _ (.inl (by simp))).setCell _ (.inl (by simp)))
    have HD5 := Lib.hid (D2.kept u5 (fun k hk => by rw [List.mem_singleton.1 hk]; exact HgB.out))
    have HU5 : Hid (Upd [g] w _) := U2.afterB u5 (fun k hk => by rw [List.mem_singleton.1 hk, ← HB.out]; exact Nat.le_refl _)
    clear b5 u5 hBx hgx
    clear uS RB2 D2 U2
    go_wp2_with fail
    refine bodyPost_ret (v := .agg #[.int .i64 z, .int .i64 l, .int .i64 r, .int .i64 lo, .int .i64 ro]) ?_ rfl ?_
    · simp [results, Try.f71, asAddr, loadVar, loadCells, loadCellsFrom, Addr.add, hr0, hr1, hr2, hr3, hr4]
    · exact ⟨_, _, _, _, _, rfl, HD5.out, HU5.out⟩
  · by_cases k1 : k = 1
    · subst k1
      go_wp2_with fail
      refine (l01Pick_c g a c bs _ _ [199, 200, 1200, 1201] _ (D.out.kept0 ((Upd.refl _).alloc _)) (lit_ints _ [199, 200, 1200, 1201]) (fun ad e => by cases e; exact D.out.lt) (by simp) (by simp)).mono ?_
      rintro e wn ⟨z, rfl, hz, hd, hu⟩
      replace RB := Lib.hid ((RB.out.kept0 ((Upd.refl _).alloc _)).kept hu (by simp; have := HgB.out; omega))
      replace X := Lib.hid ((X.out.kept0 ((Upd.refl _).alloc _)).kept hu (by simp; have := HgX.out; omega))
      replace D := Lib.hid hd
      replace U := Lib.hid ((U.out.alloc _).then1 hu)
      clear hd hu hz
      have cX0 := X.out.cell (k := 0) rfl
      have m0 := RB.out.cell (k := 0) rfl
      have f0 := RB.out.free 0
      have cX1 := X.out.cell (k := 1) rfl
      have m1 := RB.out.cell (k := 1) rfl
      have f1 := RB.out.free 1
      have cX2 := X.out.cell (k := 2) rfl
      have m2 := RB.out.cell (k := 2) rfl
      have f2 := RB.out.free 2
      have cX3 := X.out.cell (k := 3) rfl
      have m3 := RB.out.cell (k := 3) rfl
      have f3 := RB.out.free 3
      have cX4 := X.out.cell (k := 4) rfl
      have m4 := RB.out.cell (k := 4) rfl
      have f4 := RB.out.free 4
      have hBx := HBx.out
      have hgx := HgX.out
      have n1 : ¬ x = B := by omega
      have n2 : ¬ B = x := by omega
      have fX := X.out.free 1
      have uS : Upd [x] wn (wn.setCell ⟨x, 1, none⟩ (.int .i64 (z))) := ((Upd.refl wn).mono (gs := []) (by simp)).setCell _ (.inl (by simp))
      have RB2 := RB.out.kept uS (by simp; omega)
      have D2 := D.out.kept uS (fun k hk => by rw [List.mem_singleton.1 hk]; exact hgx)
      have U2 : Upd [g] w (wn.setCell ⟨x, 1, none⟩ (.int .i64 (z))) := U.out.afterB uS (fun k hk => by rw [List.mem_singleton.1 hk, HB.out]; omega)
      have b5 := (((((RB2.set 0 (h)).set 1 (z)).set 2 (r)).set 3 (lo)).set 4 (ro))
      have hr0 := b5.cell (k := 0) (x := h) rfl
      have hr1 := b5.cell (k := 1) (x := z) rfl
      have hr2 := b5.cell (k := 2) (x := r) rfl
      have hr3 := b5.cell (k := 3) (x := lo) rfl
      have hr4 := b5.cell (k := 4) (x := ro) rfl
      have u5 : Upd [B] (wn.setCell ⟨x, 1, none⟩ (.int .i64 (z))) ((((((wn.setCell ⟨x, 1, none⟩ (.int .i64 (z))).setCell ⟨B, 0, none⟩ (.int .i64 (h))).setCell ⟨B, 1, none⟩ (.int .i64 (z))).setCell ⟨B, 2, none⟩ (.int .i64 (r))).setCell ⟨B, 3, none⟩ (.int .i64 (lo))).setCell ⟨B, 4, none⟩ (.int .i64 (ro))) := (((((((Upd.refl (wn.setCell ⟨x, 1, none⟩ (.int .i64 (z)))).mono (gs := []) (hs := [B]) (by simp)).setCell _ (.inl (by simp))).setCell _ (.inl (by simp))).setCell _ (.inl (by simp))).setCell _ (.inl (by simp))).setCell _ (.inl (by simp)))
      have HD5 := Lib.hid (D2.kept u5 (fun k hk => by rw [List.mem_singleton.1 hk]; exact HgB.out))
      have HU5 : Hid (Upd [g] w _) := U2.afterB u5 (fun k hk => by rw [List.mem_singleton.1 hk, ← HB.out]; exact Nat.le_refl _)
      clear b5 u5 hBx hgx
      clear uS RB2 D2 U2
      go_wp2_with fail
      refine bodyPost_ret (v := .agg #[.int .i64 h, .int .i64 z, .int .i64 r, .int .i64 lo, .int .i64 ro]) ?_ rfl ?_
      · simp [results, Try.f71, asAddr, loadVar, loadCells, loadCellsFrom, Addr.add, hr0, hr1, hr2, hr3, hr4]
      · exact ⟨_, _, _, _, _, rfl, HD5.out, HU5.out⟩
    · by_cases k2 : k = 2
      · subst k2
        go_wp2_with fail
        refine (l01Pick_c g a c bs _ _ [-1, 0, 500, 501] _ (D.out.kept0 ((Upd.refl _).alloc _)) (lit_ints _ [-1, 0, 500, 501]) (fun ad e => by cases e; exact D.out.lt) (by simp) (by simp)).mono ?_
        rintro e wn ⟨z, rfl, hz, hd, hu⟩
        replace RB := Lib.hid ((RB.out.kept0 ((Upd.refl _).alloc _)).kept hu (by simp; have := HgB.out; omega))
        replace X := Lib.hid ((X.out.kept0 ((Upd.refl _).alloc _)).kept hu (by simp; have := HgX.out; omega))
        replace D := Lib.hid hd
        replace U := Lib.hid ((U.out.alloc _).then1 hu)
        clear hd hu hz
        have cX0 := X.out.cell (k := 0) rfl
        have m0 := RB.out.cell (k := 0) rfl
        have f0 := RB.out.free 0
        have cX1 := X.out.cell (k := 1) rfl
        have m1 := RB.out.cell (k := 1) rfl
        have f1 := RB.out.free 1
        have cX2 := X.out.cell (k := 2) rfl
        have m2 := RB.out.cell (k := 2) rfl
        have f2 := RB.out.free 2
        have cX3 := X.out.cell (k := 3) rfl
        have m3 := RB.out.cell (k := 3) rfl
        have f3 := RB.out.free 3
        have cX4 := X.out.cell (k := 4) rfl
        have m4 := RB.out.cell (k := 4) rfl
        have f4 := RB.out.free 4
        have hBx := HBx.out
        have hgx := HgX.out
        have n1 : ¬ x = B := by omega
        have n2 : ¬ B = x := by omega
        have fX := X.out.free 4
        have uS : Upd [x] wn (wn.setCell ⟨x, 4, none⟩ (.int .i64 (z))) := ((Upd.refl wn).mono (gs := []) (by simp)).setCell _ (.inl (by simp))
        have RB2 := RB.out.kept uS (by simp; omega)
        have D2 := D.out.kept uS (fun k hk => by rw [List.mem_singleton.1 hk]; exact hgx)
        have U2 : Upd [g] w (wn.setCell ⟨x, 4, none⟩ (.int .i64 (z))) := U.out.afterB uS (fun k hk => by rw [List.mem_singleton.1 hk, HB.out]; omega)
        have b5 := (((((RB2.set 0 (h)).set 1 (l)).set 2 (r)).set 3 (lo)).set 4 (z))
        have hr0 := b5.cell (k := 0) (x := h) rfl
        have hr1 := b5.cell (k := 1) (x := l) rfl
        have hr2 := b5.cell (k := 2) (x := r) rfl
        have hr3 := b5.cell (k := 3) (x := lo) rfl
        have hr4 := b5.cell (k := 4) (x := z) rfl
        have u5 : Upd [B] (wn.setCell ⟨x, 4, none⟩ (.int .i64 (z))) ((((((wn.setCell ⟨x, 4, none⟩ (.int .i64 (z))).setCell ⟨B, 0, none⟩ (.int .i64 (h))).setCell ⟨B, 1, none⟩ (.int .i64 (l))).setCell ⟨B, 2, none⟩ (.int .i64 (r))).setCell ⟨B, 3, none⟩ (.int .i64 (lo))).setCell ⟨B, 4, none⟩ (.int .i64 (z))) := (((((((Upd.refl (wn.setCell ⟨x, 4, none⟩ (.int .i64 (z)))).mono (gs := []) (hs := [B]) (by simp)).setCell _ (.inl (by simp))).setCell _ (.inl (by simp))).setCell _ (.inl (by simp))).setCell _ (.inl (by simp))).setCell _ (.inl (by simp)))
        have HD5 := Lib.hid (D2.kept u5 (fun k hk => by rw [List.mem_singleton.1 hk]; exact HgB.out))
        have HU5 : Hid (Upd [g] w _) := U2.afterB u5 (fun k hk => by rw [List.mem_singleton.1 hk, ← HB.out]; exact Nat.le_refl _)
        clear b5 u5 hBx hgx
        clear uS RB2 D2 U2
        go_wp2_with fail
        refine bodyPost_ret (v := .agg #[.int .i64 h, .int .i64 l, .int .i64 r, .int .i64 lo, .int .i64 z]) ?_ rfl ?_
        · simp [results, Try.f71, asAddr, loadVar, loadCells, loadCellsFrom, Addr.add, hr0, hr1, hr2, hr3, hr4]
        · exact ⟨_, _, _, _, _, rfl, HD5.out, HU5.out⟩
      · go_upto_region 9 with fail
        have cX0 := X.out.cell (k := 0) rfl
        have m0 := RB.out.cell (k := 0) rfl
        have f0 := RB.out.free 0
        have cX1 := X.out.cell (k := 1) rfl
        have m1 := RB.out.cell (k := 1) rfl
        have f1 := RB.out.free 1
        have cX2 := X.out.cell (k := 2) rfl
        have m2 := RB.out.cell (k := 2) rfl
        have f2 := RB.out.free 2
        have cX3 := X.out.cell (k := 3) rfl
        have m3 := RB.out.cell (k := 3) rfl
        have f3 := RB.out.free 3
        have cX4 := X.out.cell (k := 4) rfl
        have m4 := RB.out.cell (k := 4) rfl
        have f4 := RB.out.free 4
        have hBx := HBx.out
        have hgx := HgX.out
        have n1 : ¬ x = B := by omega
        have n2 : ¬ B = x := by omega
        have b5 := (((((RB.out.set 0 (h)).set 1 (l)).set 2 (r)).set 3 (lo)).set 4 (ro))
        have hr0 := b5.cell (k := 0) (x := h) rfl
        have hr1 := b5.cell (k := 1) (x := l) rfl
        have hr2 := b5.cell (k := 2) (x := r) rfl
        have hr3 := b5.cell (k := 3) (x := lo) rfl
        have hr4 := b5.cell (k := 4) (x := ro) rfl
        have u5 : Upd [B] wn (((((wn.setCell ⟨B, 0, none⟩ (.int .i64 (h))).setCell ⟨B, 1, none⟩ (.int .i64 (l))).setCell ⟨B, 2, none⟩ (.int .i64 (r))).setCell ⟨B, 3, none⟩ (.int .i64 (lo))).setCell ⟨B, 4, none⟩ (.int .i64 (ro))) := (((((((Upd.refl wn).mono (gs := []) (hs := [B]) (by simp)).setCell _ (.inl (by simp))).setCell _ (.inl (by simp))).setCell _ (.inl (by simp))).setCell _ (.inl (by simp))).setCell _ (.inl (by simp)))
        have HD5 := Lib.hid (D.out.kept u5 (fun k hk => by rw [List.mem_singleton.1 hk]; exact HgB.out))
        have HU5 : Hid (Upd [g] w _) := U.out.afterB u5 (fun k hk => by rw [List.mem_singleton.1 hk, ← HB.out]; exact Nat.le_refl _)
        clear b5 u5 hBx hgx
        go_wp2_with fail
        refine bodyPost_ret (v := .agg #[.int .i64 h, .int .i64 l, .int .i64 r, .int .i64 lo, .int .i64 ro]) ?_ rfl ?_
        · simp [results, Try.f71, asAddr, loadVar, loadCells, loadCellsFrom, Addr.add, hr0, hr1, hr2, hr3, hr4]
        · exact ⟨_, _, _, _, _, rfl, HD5.out, HU5.out⟩
set_option maxRecDepth 20000 in
set_option maxHeartbeats 1600000 in
theorem l04Rim_c (g : Nat) (a : Option Addr) (c : Nat) (bs : List Int) (hh : Int) (w : World) (h : DC w g a c bs) : Calls Try.prog 72 #[.pointer (some ⟨g, 0, none⟩), .int .i64 hh] w (RimP w g a c bs) := by
  have hgB := h.lt
  have u1 : Upd [] w (w.alloc (.cells #[.int .i64 0, .int .i64 0, .int .i64 0] 32)) := (Upd.refl w).alloc _
  have b1 : Blk (w.alloc (.cells #[.int .i64 0, .int .i64 0, .int .i64 0] 32)) w.heap.size [0, 0, 0] 32 := Blk.new w [0, 0, 0] _
  obtain ⟨B, hB⟩ : ∃ B, w.heap.size = B := ⟨_, rfl⟩
  rw [hB] at hgB b1
  have HgB := Lib.hid hgB
  have HSz : Hid ((w.alloc (.cells #[.int .i64 0, .int .i64 0, .int .i64 0] 32)).heap.size = B + 1) := by show _ = _; simp [hB]
  have HB := Lib.hid hB
  have RB := Lib.hid b1
  have D := Lib.hid (h.kept0 u1)
  have U : Hid (Upd [g] w (w.alloc (.cells #[.int .i64 0, .int .i64 0, .int .i64 0] 32))) := u1.mono (by simp)
  clear h u1 b1 hgB
  go_enter Try.func72, Try.ntmps72
  go_wp2_with fail
  try rw [hB]
  clear hB
  refine (l01Next_c g a c bs _ _ D.out).mono ?_
  rintro e wn ⟨y0, rfl, hy0, hd, hu⟩
  replace RB := Lib.hid (RB.out.kept hu (by simp; have := HgB.out; omega))
  replace D := Lib.hid hd
  replace U := Lib.hid (U.out.then1 hu)
  clear hd hu
  have hw0 : IntKind.i64.wrap (4500 + y0) = 4500 + y0 := IntWalk.i64_in _ (by omega)
  clear hy0
  go_wp2_with fail
  refine (l01Next_c g a c bs _ _ D.out).mono ?_
  rintro e wn ⟨y1, rfl, hy1, hd, hu⟩
  replace RB := Lib.hid (RB.out.kept hu (by simp; have := HgB.out; omega))
  replace D := Lib.hid hd
  replace U := Lib.hid (U.out.then1 hu)
  clear hd hu
  have hw1 : IntKind.i64.wrap (y1 - 30) = y1 - 30 := IntWalk.i64_in _ (by omega)
  clear hy1
  go_wp2_with fail
  refine (l01Pick_c g a c bs _ _ [0, 0, y1 - 30] _ (D.out.kept0 ((Upd.refl _).alloc _)) (lit_ints _ [0, 0, y1 - 30]) (fun ad e => by cases e; exact D.out.lt) (by simp) (by simp)).mono ?_
  rintro e wn ⟨z0, rfl, hz0, hd, hu⟩
  replace RB := Lib.hid ((RB.out.kept0 ((Upd.refl _).alloc _)).kept hu (by simp; have := HgB.out; omega))
  replace D := Lib.hid hd
  replace U := Lib.hid ((U.out.alloc _).then1 hu)
  clear hd hu hz0
  clear hw0 hw1
  have bX : Blk (wn.alloc (.cells #[.int .i64 hh, .int .i64 (4500 + y0), .int .i64 z0] 32)) wn.heap.size [hh, 4500 + y0, z0] 32 := Blk.new wn [hh, 4500 + y0, z0] _
  have uX : Upd [] wn (wn.alloc (.cells #[.int .i64 hh, .int .i64 (4500 + y0), .int .i64 z0] 32)) := (Upd.refl wn).alloc _
  have hlt := RB.out.lt
  have hgx := D.out.lt
  replace RB := Lib.hid (RB.out.kept0 uX)
  replace D := Lib.hid (D.out.kept0 uX)
  replace U := Lib.hid (U.out.then0 uX)
  clear uX
  go_wp2_with fail
  generalize wn.alloc (.cells #[.int .i64 hh, .int .i64 (4500 + y0), .int .i64 z0] 32) = w2 at bX RB D U ⊢
  generalize wn.heap.size = x at bX hlt hgx ⊢
  have X := Lib.hid bX
  have HgX := Lib.hid hgx
  have HBx := Lib.hid hlt
  clear bX hgx hlt
  refine (l01Next_c g a c bs _ _ D.out).mono ?_
  rintro e wn ⟨k, rfl, hk, hd, hu⟩
  replace RB := Lib.hid (RB.out.kept hu (by simp; have := HgB.out; omega))
  replace X := Lib.hid (X.out.kept hu (by simp; have := HgX.out; omega))
  replace D := Lib.hid hd
  replace U := Lib.hid (U.out.then1 hu)
  clear hd hu
  clear hk
  obtain ⟨dd, hdd⟩ : ∃ z, z = 4500 + y0 := ⟨_, rfl⟩
  rw [← hdd] at X
  clear hdd
  by_cases k0 : k = 0
  · subst k0
    go_wp2_with fail
    refine (l01Pick_c g a c bs _ _ [1999, 2000, 7000, 7001] _ (D.out.kept0 ((Upd.refl _).alloc _)) (lit_ints _ [1999, 2000, 7000, 7001]) (fun ad e => by cases e; exact D.out.lt) (by simp) (by simp)).mono ?_
    rintro e wn ⟨z, rfl, hz, hd, hu⟩
    replace RB := Lib.hid ((RB.out.kept0 ((Upd.refl _).alloc _)).kept hu (by simp; have := HgB.out; omega))
    replace X := Lib.hid ((X.out.kept0 ((Upd.refl _).alloc _)).kept hu (by simp; have := HgX.out; omega))
    replace D := Lib.hid hd
    replace U := Lib.hid ((U.out.alloc _).then1 hu)
    clear hd hu hz
    have cX0 := X.out.cell (k := 0) rfl
    have m0 := RB.out.cell (k := 0) rfl
    have f0 := RB.out.free 0
    have cX1 := X.out.cell (k := 1) rfl
    have m1 := RB.out.cell (k := 1) rfl
    have f1 := RB.out.free 1
    have cX2 := X.out.cell (k := 2) rfl
    have m2 := RB.out.cell (k := 2) rfl
    have f2 := RB.out.free 2
    have hBx := HBx.out
    have hgx := HgX.out
    have n1 : ¬ x = B := by omega
    have n2 : ¬ B = x := by omega
    have fX := X.out.free 1
    have uS : Upd [x] wn (wn.setCell ⟨x, 1, none⟩ (.int .i64 (z))) := ((Upd.refl wn).mono (gs := []) (by simp)).setCell _ (.inl (by simp))
    have RB2 := RB.out.kept uS (by simp; omega)
    have D2 := D.out.kept uS (fun k hk => by rw [List.mem_singleton.1 hk]; exact hgx)
    have U2 : Upd [g] w (wn.setCell ⟨x, 1, none⟩ (.int .i64 (z))) := U.out.afterB uS (fun k hk => by rw [List.mem_singleton.1 hk, HB.out]; omega)
    have b5 := (((RB2.set 0 (hh)).set 1 (z)).set 2 (z0))
    have hr0 := b5.cell (k := 0) (x := hh) rfl
    have hr1 := b5.cell (k := 1) (x := z) rfl
    have hr2 := b5.cell (k := 2) (x := z0) rfl
    have u5 : Upd [B] (wn.setCell ⟨x, 1, none⟩ (.int .i64 (z))) ((((wn.setCell ⟨x, 1, none⟩ (.int .i64 (z))).setCell ⟨B, 0, none⟩ (.int .i64 (hh))).setCell ⟨B, 1, none⟩ (.int .i64 (z))).setCell ⟨B, 2, none⟩ (.int .i64 (z0))) := (((((Upd.refl (wn.setCell ⟨x, 1, none⟩ (.int .i64 (z)))).mono (gs := []) (hs := [B]) (by simp)).setCell _ (.inl (by simp))).setCell _ (.inl (by simp))).setCell _ (.inl (by simp)))
    have HD5 := Lib.hid (D2.kept u5 (fun k hk => by rw [List.mem_singleton.1 hk]; exact HgB.out))
    have HU5 : Hid (Upd [g] w _) := U2.afterB u5 (fun k hk => by rw [List.mem_singleton.1 hk, ← HB.out]; exact Nat.le_refl _)
    clear b5 u5 hBx hgx
    clear uS RB2 D2 U2
    go_wp2_with fail
    refine bodyPost_ret (v := .agg #[.int .i64 hh, .int .i64 z, .int .i64 z0]) ?_ rfl ?_
    · simp [results, Try.f72, asAddr, loadVar, loadCells, loadCellsFrom, Addr.add, hr0, hr1, hr2]
    · exact ⟨_, _, _, rfl, HD5.out, HU5.out⟩
  · by_cases k1 : k = 1
    · subst k1
      go_wp2_with fail
      refine (l01Pick_c g a c bs _ _ [-101, -100, 100, 101] _ (D.out.kept0 ((Upd.refl _).alloc _)) (lit_ints _ [-101, -100, 100, 101]) (fun ad e => by cases e; exact D.out.lt) (by simp) (by simp)).mono ?_
      rintro e wn ⟨z, rfl, hz, hd, hu⟩
      replace RB := Lib.hid ((RB.out.kept0 ((Upd.refl _).alloc _)).kept hu (by simp; have := HgB.out; omega))
      replace X := Lib.hid ((X.out.kept0 ((Upd.refl _).alloc _)).kept hu (by simp; have := HgX.out; omega))
      replace D := Lib.hid hd
      replace U := Lib.hid ((U.out.alloc _).then1 hu)
      clear hd hu hz
      have cX0 := X.out.cell (k := 0) rfl
      have m0 := RB.out.cell (k := 0) rfl
      have f0 := RB.out.free 0
      have cX1 := X.out.cell (k := 1) rfl
      have m1 := RB.out.cell (k := 1) rfl
      have f1 := RB.out.free 1
      have cX2 := X.out.cell (k := 2) rfl
      have m2 := RB.out.cell (k := 2) rfl
      have f2 := RB.out.free 2
      have hBx := HBx.out
      have hgx := HgX.out
      have n1 : ¬ x = B := by omega
      have n2 : ¬ B = x := by omega
      have fX := X.out.free 2
      have uS : Upd [x] wn (wn.setCell ⟨x, 2, none⟩ (.int .i64 (z))) := ((Upd.refl wn).mono (gs := []) (by simp)).setCell _ (.inl (by simp))
      have RB2 := RB.out.kept uS (by simp; omega)
      have D2 := D.out.kept uS (fun k hk => by rw [List.mem_singleton.1 hk]; exact hgx)
      have U2 : Upd [g] w (wn.setCell ⟨x, 2, none⟩ (.int .i64 (z))) := U.out.afterB uS (fun k hk => by rw [List.mem_singleton.1 hk, HB.out]; omega)
      have b5 := (((RB2.set 0 (hh)).set 1 (dd)).set 2 (z))
      have hr0 := b5.cell (k := 0) (x := hh) rfl
      have hr1 := b5.cell (k := 1) (x := dd) rfl
      have hr2 := b5.cell (k := 2) (x := z) rfl
      have u5 : Upd [B] (wn.setCell ⟨x, 2, none⟩ (.int .i64 (z))) ((((wn.setCell ⟨x, 2, none⟩ (.int .i64 (z))).setCell ⟨B, 0, none⟩ (.int .i64 (hh))).setCell ⟨B, 1, none⟩ (.int .i64 (dd))).setCell ⟨B, 2, none⟩ (.int .i64 (z))) := (((((Upd.refl (wn.setCell ⟨x, 2, none⟩ (.int .i64 (z)))).mono (gs := []) (hs := [B]) (by simp)).setCell _ (.inl (by simp))).setCell _ (.inl (by simp))).setCell _ (.inl (by simp)))
      have HD5 := Lib.hid (D2.kept u5 (fun k hk => by rw [List.mem_singleton.1 hk]; exact HgB.out))
      have HU5 : Hid (Upd [g] w _) := U2.afterB u5 (fun k hk => by rw [List.mem_singleton.1 hk, ← HB.out]; exact Nat.le_refl _)
      clear b5 u5 hBx hgx
      clear uS RB2 D2 U2
      go_wp2_with fail
      refine bodyPost_ret (v := .agg #[.int .i64 hh, .int .i64 dd, .int .i64 z]) ?_ rfl ?_
      · simp [results, Try.f72, asAddr, loadVar, loadCells, loadCellsFrom, Addr.add, hr0, hr1, hr2]
      · exact ⟨_, _, _, rfl, HD5.out, HU5.out⟩
    · by_cases k2 : k = 2
      · subst k2
        go_wp2_with fail
        refine (l01Pick_c g a c bs _ _ [28, 36] _ (D.out.kept0 ((Upd.refl _).alloc _)) (lit_ints _ [28, 36]) (fun ad e => by cases e; exact D.out.lt) (by simp) (by simp)).mono ?_
        rintro e wn ⟨z, rfl, hz, hd, hu⟩
        replace RB := Lib.hid ((RB.out.kept0 ((Upd.refl _).alloc _)).kept hu (by simp; have := HgB.out; omega))
        replace X := Lib.hid ((X.out.kept0 ((Upd.refl _).alloc _)).kept hu (by simp; have := HgX.out; omega))
        replace D := Lib.hid hd
        replace U := Lib.hid ((U.out.alloc _).then1 hu)
        clear hd hu hz
        have cX0 := X.out.cell (k := 0) rfl
        have m0 := RB.out.cell (k := 0) rfl
        have f0 := RB.out.free 0
        have cX1 := X.out.cell (k := 1) rfl
        have m1 := RB.out.cell (k := 1) rfl
        have f1 := RB.out.free 1
        have cX2 := X.out.cell (k := 2) rfl
        have m2 := RB.out.cell (k := 2) rfl
        have f2 := RB.out.free 2
        have hBx := HBx.out
        have hgx := HgX.out
        have n1 : ¬ x = B := by omega
        have n2 : ¬ B = x := by omega
        have fX := X.out.free 0
        have uS : Upd [x] wn (wn.setCell ⟨x, 0, none⟩ (.int .i64 (z))) := ((Upd.refl wn).mono (gs := []) (by simp)).setCell _ (.inl (by simp))
        have RB2 := RB.out.kept uS (by simp; omega)
        have D2 := D.out.kept uS (fun k hk => by rw [List.mem_singleton.1 hk]; exact hgx)
        have U2 : Upd [g] w (wn.setCell ⟨x, 0, none⟩ (.int .i64 (z))) := U.out.afterB uS (fun k hk => by rw [List.mem_singleton.1 hk, HB.out]; omega)
        have b5 := (((RB2.set 0 (z)).set 1 (dd)).set 2 (z0))
        have hr0 := b5.cell (k := 0) (x := z) rfl
        have hr1 := b5.cell (k := 1) (x := dd) rfl
        have hr2 := b5.cell (k := 2) (x := z0) rfl
        have u5 : Upd [B] (wn.setCell ⟨x, 0, none⟩ (.int .i64 (z))) ((((wn.setCell ⟨x, 0, none⟩ (.int .i64 (z))).setCell ⟨B, 0, none⟩ (.int .i64 (z))).setCell ⟨B, 1, none⟩ (.int .i64 (dd))).setCell ⟨B, 2, none⟩ (.int .i64 (z0))) := (((((Upd.refl (wn.setCell ⟨x, 0, none⟩ (.int .i64 (z)))).mono (gs := []) (hs := [B]) (by simp)).setCell _ (.inl (by simp))).setCell _ (.inl (by simp))).setCell _ (.inl (by simp)))
        have HD5 := Lib.hid (D2.kept u5 (fun k hk => by rw [List.mem_singleton.1 hk]; exact HgB.out))
        have HU5 : Hid (Upd [g] w _) := U2.afterB u5 (fun k hk => by rw [List.mem_singleton.1 hk, ← HB.out]; exact Nat.le_refl _)
        clear b5 u5 hBx hgx
        clear uS RB2 D2 U2
        go_wp2_with fail
        refine bodyPost_ret (v := .agg #[.int .i64 z, .int .i64 dd, .int .i64 z0]) ?_ rfl ?_
        · simp [results, Try.f72, asAddr, loadVar, loadCells, loadCellsFrom, Addr.add, hr0, hr1, hr2]
        · exact ⟨_, _, _, rfl, HD5.out, HU5.out⟩
      · go_upto_region 9 with fail
        have cX0 := X.out.cell (k := 0) rfl
        have m0 := RB.out.cell (k := 0) rfl
        have f0 := RB.out.free 0
        have cX1 := X.out.cell (k := 1) rfl
        have m1 := RB.out.cell (k := 1) rfl
        have f1 := RB.out.free 1
        have cX2 := X.out.cell (k := 2) rfl
        have m2 := RB.out.cell (k := 2) rfl
        have f2 := RB.out.free 2
        have hBx := HBx.out
        have hgx := HgX.out
        have n1 : ¬ x = B := by omega
        have n2 : ¬ B = x := by omega
        have b5 := (((RB.out.set 0 (hh)).set 1 (dd)).set 2 (z0))
        have hr0 := b5.cell (k := 0) (x := hh) rfl
        have hr1 := b5.cell (k := 1) (x := dd) rfl
        have hr2 := b5.cell (k := 2) (x := z0) rfl
        have u5 : Upd [B] wn (((wn.setCell ⟨B, 0, none⟩ (.int .i64 (hh))).setCell ⟨B, 1, none⟩ (.int .i64 (dd))).setCell ⟨B, 2, none⟩ (.int .i64 (z0))) := (((((Upd.refl wn).mono (gs := []) (hs := [B]) (by simp)).setCell _ (.inl (by simp))).setCell _ (.inl (by simp))).setCell _ (.inl (by simp)))
        have HD5 := Lib.hid (D.out.kept u5 (fun k hk => by rw [List.mem_singleton.1 hk]; exact HgB.out))
        have HU5 : Hid (Upd [g] w _) := U.out.afterB u5 (fun k hk => by rw [List.mem_singleton.1 hk, ← HB.out]; exact Nat.le_refl _)
        clear b5 u5 hBx hgx
        go_wp2_with fail
        refine bodyPost_ret (v := .agg #[.int .i64 hh, .int .i64 dd, .int .i64 z0]) ?_ rfl ?_
        · simp [results, Try.f72, asAddr, loadVar, loadCells, loadCellsFrom, Addr.add, hr0, hr1, hr2]
        · exact ⟨_, _, _, rfl, HD5.out, HU5.out⟩
end Go.Proofs.Ytbjeaadnanimfaa
