/- Chapter 4: the draws of hubs and rims. -/
import Derived.Test.YtbjeaadnanimfaaMirror
import Derived.Test.YtbjeaadnanimfaaDraw3
namespace Go.Proofs.Ytbjeaadnanimfaa
open Go.RowKit Go.Sort
set_option linter.unusedVariables false
set_option linter.unusedSimpArgs false

/-- A hub is drawn. -/
def HubP (w : World) (g : Nat) (a : Option Addr) (c : Nat) (bs : List Int) (e : Ending) (w' : World) : Prop :=
  ∃ h l r lo ro : Int, e = .returned (.agg #[.int .i64 h, .int .i64 l, .int .i64 r, .int .i64 lo, .int .i64 ro]) ∧ DC w' g a c bs ∧ Upd [g] w w'
/-- A rim is drawn. -/
def RimP (w : World) (g : Nat) (a : Option Addr) (c : Nat) (bs : List Int) (e : Ending) (w' : World) : Prop :=
  ∃ rh d o : Int, e = .returned (.agg #[.int .i64 rh, .int .i64 d, .int .i64 o]) ∧ DC w' g a c bs ∧ Upd [g] w w'
set_option maxRecDepth 20000 in
set_option maxHeartbeats 600000 in
theorem l04Good_c (g : Nat) (a : Option Addr) (c : Nat) (bs : List Int) (w : World) (h : DC w g a c bs) : Calls Try.prog 79 #[.pointer (some ⟨g, 0, none⟩)] w (HubP w g a c bs) := by
  have hgB := h.lt
  have u1 : Upd [] w (w.alloc (.cells #[.int .i64 0, .int .i64 0, .int .i64 0, .int .i64 0, .int .i64 0] 30)) := (Upd.refl w).alloc _
  have b1 : Blk (w.alloc (.cells #[.int .i64 0, .int .i64 0, .int .i64 0, .int .i64 0, .int .i64 0] 30)) w.heap.size [0, 0, 0, 0, 0] 30 := Blk.new w [0, 0, 0, 0, 0] _
  obtain ⟨B, hB⟩ : ∃ B, w.heap.size = B := ⟨_, rfl⟩
  rw [hB] at hgB b1
  have HgB := Lib.hid hgB
  have HSz : Hid ((w.alloc (.cells #[.int .i64 0, .int .i64 0, .int .i64 0, .int .i64 0, .int .i64 0] 30)).heap.size = B + 1) := by show _ = _; simp [hB]
  have HB := Lib.hid hB
  have RB := Lib.hid b1
  have D := Lib.hid (h.kept0 u1)
  have U : Hid (Upd [g] w (w.alloc (.cells #[.int .i64 0, .int .i64 0, .int .i64 0, .int .i64 0, .int .i64 0] 30))) := u1.mono (by simp)
  clear h u1 b1 hgB
  go_enter Try.func79, Try.ntmps79
  go_wp2_with fail
  try rw [hB]
  clear hB
  have hli := lit_ints (w.alloc (.cells #[.int .i64 0, .int .i64 0, .int .i64 0, .int .i64 0, .int .i64 0] 30)) [32, 36, 24, 20, 16, 12, 48]
  rw [HSz.out] at hli
  refine (l01Pick_c g a c bs _ _ [32, 36, 24, 20, 16, 12, 48] _ (D.out.kept0 ((Upd.refl _).alloc _)) hli (fun ad e => by cases e; have := HgB.out; show g < B + 1; omega) (by simp) (by simp)).mono ?_
  rintro e wn ⟨q, rfl, hq, hd, hu⟩
  replace RB := Lib.hid ((RB.out.kept0 ((Upd.refl _).alloc _)).kept hu (by simp; have := HgB.out; omega))
  replace D := Lib.hid hd
  replace U := Lib.hid ((U.out.alloc _).then1 hu)
  clear hd hu hq hli
  go_wp2_with fail
  refine (l01Next_c g a c bs _ _ D.out).mono ?_
  rintro e wn ⟨y0, rfl, hy0, hd, hu⟩
  replace RB := Lib.hid (RB.out.kept hu (by simp; have := HgB.out; omega))
  replace D := Lib.hid hd
  replace U := Lib.hid (U.out.then1 hu)
  clear hd hu
  have hw0 : IntKind.i64.wrap (380 + y0) = 380 + y0 := IntWalk.i64_in _ (by omega)
  clear hy0
  go_wp2_with fail
  refine (l01Next_c g a c bs _ _ D.out).mono ?_
  rintro e wn ⟨y1, rfl, hy1, hd, hu⟩
  replace RB := Lib.hid (RB.out.kept hu (by simp; have := HgB.out; omega))
  replace D := Lib.hid hd
  replace U := Lib.hid (U.out.then1 hu)
  clear hd hu
  have hw1 : IntKind.i64.wrap (380 + y1) = 380 + y1 := IntWalk.i64_in _ (by omega)
  clear hy1
  go_wp2_with fail
  refine (l01Next_c g a c bs _ _ D.out).mono ?_
  rintro e wn ⟨y2, rfl, hy2, hd, hu⟩
  replace RB := Lib.hid (RB.out.kept hu (by simp; have := HgB.out; omega))
  replace D := Lib.hid hd
  replace U := Lib.hid (U.out.then1 hu)
  clear hd hu
  have hw2 : IntKind.i64.wrap (200 + y2) = 200 + y2 := IntWalk.i64_in _ (by omega)
  clear hy2
  go_wp2_with fail
  refine (l01Next_c g a c bs _ _ D.out).mono ?_
  rintro e wn ⟨y3, rfl, hy3, hd, hu⟩
  replace RB := Lib.hid (RB.out.kept hu (by simp; have := HgB.out; omega))
  replace D := Lib.hid hd
  replace U := Lib.hid (U.out.then1 hu)
  clear hd hu
  have hw3 : IntKind.i64.wrap (150 + y3) = 150 + y3 := IntWalk.i64_in _ (by omega)
  clear hy3
  have m0 := RB.out.cell (k := 0) rfl
  have f0 := RB.out.free 0
  have m1 := RB.out.cell (k := 1) rfl
  have f1 := RB.out.free 1
  have m2 := RB.out.cell (k := 2) rfl
  have f2 := RB.out.free 2
  have m3 := RB.out.cell (k := 3) rfl
  have f3 := RB.out.free 3
  have m4 := RB.out.cell (k := 4) rfl
  have f4 := RB.out.free 4
  have b5 := (((((RB.out.set 0 (q)).set 1 (380 + y0)).set 2 (380 + y1)).set 3 (200 + y2)).set 4 (150 + y3))
  have hr0 := b5.cell (k := 0) (x := q) rfl
  have hr1 := b5.cell (k := 1) (x := 380 + y0) rfl
  have hr2 := b5.cell (k := 2) (x := 380 + y1) rfl
  have hr3 := b5.cell (k := 3) (x := 200 + y2) rfl
  have hr4 := b5.cell (k := 4) (x := 150 + y3) rfl
  have u5 : Upd [B] wn (((((wn.setCell ⟨B, 0, none⟩ (.int .i64 (q))).setCell ⟨B, 1, none⟩ (.int .i64 (380 + y0))).setCell ⟨B, 2, none⟩ (.int .i64 (380 + y1))).setCell ⟨B, 3, none⟩ (.int .i64 (200 + y2))).setCell ⟨B, 4, none⟩ (.int .i64 (150 + y3))) := (((((((Upd.refl wn).mono (gs := []) (hs := [B]) (by simp)).setCell _ (.inl (by simp))).setCell _ (.inl (by simp))).setCell _ (.inl (by simp))).setCell _ (.inl (by simp))).setCell _ (.inl (by simp)))
  have HD5 := Lib.hid (D.out.kept u5 (fun k hk => by rw [List.mem_singleton.1 hk]; exact HgB.out))
  have HU5 : Hid (Upd [g] w _) := U.out.afterB u5 (fun k hk => by rw [List.mem_singleton.1 hk, ← HB.out]; exact Nat.le_refl _)
  clear b5 u5
  go_wp2_with fail
  refine bodyPost_ret (v := .agg #[.int .i64 q, .int .i64 (380 + y0), .int .i64 (380 + y1), .int .i64 (200 + y2), .int .i64 (150 + y3)]) ?_ rfl ?_
  · simp [results, Try.f79, asAddr, loadVar, loadCells, loadCellsFrom, Addr.add, hr0, hr1, hr2, hr3, hr4]
  · exact ⟨_, _, _, _, _, rfl, HD5.out, HU5.out⟩
end Go.Proofs.Ytbjeaadnanimfaa
