/- Chapter 4: a wheel is drawn. -/
import Derived.Test.YtbjeaadnanimfaaDrawW2
import Derived.Deep.RegionHeld3
import Derived.Lib.MinMax
namespace Go.Proofs.Ytbjeaadnanimfaa
open Go.RowKit Go.Sort
set_option linter.unusedVariables false
set_option linter.unusedSimpArgs false

theorem Upd.chain9 {gs : List Nat} {w w' : World} {B : Nat} {v0 v1 v2 v3 v4 v5 v6 v7 v8 : Value} (u : Upd gs w w') (hB : B ∈ gs ∨ w.heap.size ≤ B) : Upd gs w (((((((((w'.setCell ⟨B, 0, none⟩ v0).setCell ⟨B, 1, none⟩ v1).setCell ⟨B, 2, none⟩ v2).setCell ⟨B, 3, none⟩ v3).setCell ⟨B, 4, none⟩ v4).setCell ⟨B, 5, none⟩ v5).setCell ⟨B, 6, none⟩ v6).setCell ⟨B, 7, none⟩ v7).setCell ⟨B, 8, none⟩ v8) :=
  (((((((((u.setCell _ hB).setCell _ hB).setCell _ hB).setCell _ hB).setCell _ hB).setCell _ hB).setCell _ hB).setCell _ hB).setCell _ hB)
/-- A wheel is drawn. -/
def WhP (w : World) (g : Nat) (a : Option Addr) (c : Nat) (bs : List Int) (e : Ending) (w' : World) : Prop :=
  ∃ h l r lo ro rh d o k : Int, e = .returned (.agg #[.int .i64 h, .int .i64 l, .int .i64 r, .int .i64 lo, .int .i64 ro, .int .i64 rh, .int .i64 d, .int .i64 o, .int .i64 k]) ∧ DC w' g a c bs ∧ Upd [g] w w'
set_option maxRecDepth 20000 in
set_option maxHeartbeats 6400000 in
theorem l04Wheel_c (g : Nat) (a : Option Addr) (c : Nat) (bs : List Int) (w : World) (h : DC w g a c bs) : Calls Try.prog 57 #[.pointer (some ⟨g, 0, none⟩)] w (WhP w g a c bs) := by
  have hgB := h.lt
  have u1 : Upd [] w (w.alloc (.cells #[.int .i64 0, .int .i64 0, .int .i64 0, .int .i64 0, .int .i64 0, .int .i64 0, .int .i64 0, .int .i64 0, .int .i64 0] 34)) := (Upd.refl w).alloc _
  have b1 : Blk (w.alloc (.cells #[.int .i64 0, .int .i64 0, .int .i64 0, .int .i64 0, .int .i64 0, .int .i64 0, .int .i64 0, .int .i64 0, .int .i64 0] 34)) w.heap.size [0, 0, 0, 0, 0, 0, 0, 0, 0] 34 := Blk.new w [0, 0, 0, 0, 0, 0, 0, 0, 0] _
  obtain ⟨B, hB⟩ : ∃ B, w.heap.size = B := ⟨_, rfl⟩
  rw [hB] at hgB b1
  have HgB := Lib.hid hgB
  have HSz : Hid ((w.alloc (.cells #[.int .i64 0, .int .i64 0, .int .i64 0, .int .i64 0, .int .i64 0, .int .i64 0, .int .i64 0, .int .i64 0, .int .i64 0] 34)).heap.size = B + 1) := by show _ = _; simp [hB]
  have HB := Lib.hid hB
  have RB := Lib.hid b1
  have D := Lib.hid (h.kept0 u1)
  have U : Hid (Upd [g] w (w.alloc (.cells #[.int .i64 0, .int .i64 0, .int .i64 0, .int .i64 0, .int .i64 0, .int .i64 0, .int .i64 0, .int .i64 0, .int .i64 0] 34))) := u1.mono (by simp)
  clear h u1 b1 hgB
  go_enter Try.func57, Try.ntmps57
  go_wp2_with fail
  try rw [hB]
  clear hB
  refine (l04Draw_c g a c bs _ D.out).mono ?_
  rintro e wn ⟨h, l, r, lo, ro, rfl, hd, hu⟩
  replace RB := Lib.hid (RB.out.kept hu (by simp; have := HgB.out; omega))
  replace D := Lib.hid hd
  replace U := Lib.hid (U.out.then1 hu)
  clear hd hu
  have bX : Blk (wn.alloc (.cells #[.int .i64 h, .int .i64 l, .int .i64 r, .int .i64 lo, .int .i64 ro] 30)) wn.heap.size [h, l, r, lo, ro] 30 := Blk.new wn [h, l, r, lo, ro] _
  have uX : Upd [] wn (wn.alloc (.cells #[.int .i64 h, .int .i64 l, .int .i64 r, .int .i64 lo, .int .i64 ro] 30)) := (Upd.refl wn).alloc _
  have hlt := RB.out.lt
  have hgx := D.out.lt
  replace RB := Lib.hid (RB.out.kept0 uX)
  replace D := Lib.hid (D.out.kept0 uX)
  replace U := Lib.hid (U.out.then0 uX)
  clear uX
  go_wp2_with fail
  generalize wn.alloc (.cells #[.int .i64 h, .int .i64 l, .int .i64 r, .int .i64 lo, .int .i64 ro] 30) = w2 at bX RB D U ⊢
  generalize wn.heap.size = x at bX hlt hgx ⊢
  have X := Lib.hid bX
  have HgX := Lib.hid hgx
  have HBx := Lib.hid hlt
  clear bX hgx hlt
  have hgB := HgB.out
  have hgx := HgX.out
  have hBx := HBx.out
  have HS : Hid (∀ w', Upd [g, B] w2 w' → w'.cell? ⟨x, 0, none⟩ = some (.int .i64 h) ∧ w'.cell? ⟨x, 1, none⟩ = some (.int .i64 l) ∧ w'.cell? ⟨x, 2, none⟩ = some (.int .i64 r) ∧ w'.cell? ⟨x, 3, none⟩ = some (.int .i64 lo) ∧ w'.cell? ⟨x, 4, none⟩ = some (.int .i64 ro)) := fun w' u => by
    have b := X.out.kept u (by simp; omega)
    exact ⟨b.cell rfl, b.cell rfl, b.cell rfl, b.cell rfl, b.cell rfl⟩
  have V0 : Hid (Upd [g] w2 w2.drew) := (Upd.refl w2).drew.mono (by simp)
  have D0 := Lib.hid (D.out.kept0 (Upd.refl w2).drew)
  have MB : ∀ w', Upd [g] w2 w' → Upd [g, B] w2 w' := fun w' u => u.mono (by simp)
  obtain ⟨hs0, hs1, hs2, hs3, hs4⟩ := HS.out w2 ((Upd.refl w2).mono (by simp))
  clear hgB hgx hBx
  have HS0 := Lib.hid (HS.out _ (MB _ V0.out))
  obtain ⟨q0, hq0⟩ : ∃ q, IntKind.i64.wrap (h.tdiv 4) = q := ⟨_, rfl⟩
  obtain ⟨q1, hq1⟩ : ∃ q, IntKind.i64.wrap (q0 - 1) = q := ⟨_, rfl⟩
  go_region_held3 (fun w' => w'.cell? ⟨x, 0, none⟩ = some (.int .i64 h) ∧ w'.cell? ⟨x, 1, none⟩ = some (.int .i64 l) ∧ w'.cell? ⟨x, 2, none⟩ = some (.int .i64 r) ∧ w'.cell? ⟨x, 3, none⟩ = some (.int .i64 lo) ∧ w'.cell? ⟨x, 4, none⟩ = some (.int .i64 ro))
    (first | with_reducible exact HS0.out | with_reducible exact HS1.out | with_reducible exact HS2.out | with_reducible exact HS3.out | with_reducible exact HS4.out)
    (first
      | (go_at_call 35
         refine (l01Next_c g a c bs _ _ D2.out).mono ?_
         rintro e w13 ⟨x2, rfl, hx2, hd, hu⟩
         have D3 := Lib.hid hd
         have V3 := Lib.hid (V2.out.then1 hu)
         clear hd hu hx2
         obtain ⟨q2, hq2⟩ : ∃ q, IntKind.i64.wrap (x2.tdiv 23) = q := ⟨_, rfl⟩
         obtain ⟨q3, hq3⟩ : ∃ q, IntKind.i64.wrap (q2 * 8) = q := ⟨_, rfl⟩
         obtain ⟨K, hK⟩ : ∃ q, IntKind.i64.wrap (min x1 (max 0 q1) + q3) = q := ⟨_, rfl⟩
         have HS3 := Lib.hid (HS.out _ (MB _ V3.out))
         have HS4 := Lib.hid (HS.out _ ((MB _ V3.out).chain9 (B := B) (v0 := .int .i64 h) (v1 := .int .i64 l) (v2 := .int .i64 r) (v3 := .int .i64 lo) (v4 := .int .i64 ro) (v5 := .int .i64 rh) (v6 := .int .i64 d) (v7 := .int .i64 o) (v8 := .int .i64 K) (.inl (by simp))))
         have RB4 := Lib.hid (RB.out.kept V3.out (by simp; have := HgB.out; omega))
         have m0 := RB4.out.cell (k := 0) rfl
         have f0 := RB4.out.free 0
         have m1 := RB4.out.cell (k := 1) rfl
         have f1 := RB4.out.free 1
         have m2 := RB4.out.cell (k := 2) rfl
         have f2 := RB4.out.free 2
         have m3 := RB4.out.cell (k := 3) rfl
         have f3 := RB4.out.free 3
         have m4 := RB4.out.cell (k := 4) rfl
         have f4 := RB4.out.free 4
         have m5 := RB4.out.cell (k := 5) rfl
         have f5 := RB4.out.free 5
         have m6 := RB4.out.cell (k := 6) rfl
         have f6 := RB4.out.free 6
         have m7 := RB4.out.cell (k := 7) rfl
         have f7 := RB4.out.free 7
         have m8 := RB4.out.cell (k := 8) rfl
         have f8 := RB4.out.free 8)
      | (go_at_call 35
         refine (l01Next_c g a c bs _ _ D1.out).mono ?_
         rintro e w12 ⟨x1, rfl, hx1, hd, hu⟩
         have D2 := Lib.hid hd
         have V2 := Lib.hid (V1.out.then1 hu)
         have HS2 := Lib.hid (HS.out _ (MB _ V2.out))
         clear hd hu hx1)
      | (go_at_call 72
         refine (l04Rim_c g a c bs _ _ D0.out).mono ?_
         rintro e w11 ⟨rh, d, o, rfl, hd, hu⟩
         have D1 := Lib.hid hd
         have V1 := Lib.hid (V0.out.then1 hu)
         have HS1 := Lib.hid (HS.out _ (MB _ V1.out))
         clear hd hu))
  all_goals
    have b5 := Lib.hid (((((((((RB4.out.set 0 h).set 1 l).set 2 r).set 3 lo).set 4 ro).set 5 rh).set 6 d).set 7 o).set 8 K)
    have u5 : Upd [B] w13 _ := ((Upd.refl w13).mono (gs := []) (hs := [B]) (by simp)).chain9 (B := B) (v0 := .int .i64 h) (v1 := .int .i64 l) (v2 := .int .i64 r) (v3 := .int .i64 lo) (v4 := .int .i64 ro) (v5 := .int .i64 rh) (v6 := .int .i64 d) (v7 := .int .i64 o) (v8 := .int .i64 K) (.inl (by simp))
    have HD5 := Lib.hid (D3.out.kept u5 (fun k hk => by rw [List.mem_singleton.1 hk]; exact HgB.out))
    have HU5 : Hid (Upd [g] w _) := (U.out.then1 V3.out).afterB u5 (fun k hk => by rw [List.mem_singleton.1 hk, ← HB.out]; exact Nat.le_refl _)
    clear u5 m0 f0 m1 f1 m2 f2 m3 f3 m4 f4 m5 f5 m6 f6 m7 f7 m8 f8 HS HS0 HS1 HS2 HS3 HS4 hs0 hs1 hs2 hs3 hs4 MB V0 V1 V2
    have hr0 := b5.out.cell (k := 0) rfl
    have hr1 := b5.out.cell (k := 1) rfl
    have hr2 := b5.out.cell (k := 2) rfl
    have hr3 := b5.out.cell (k := 3) rfl
    have hr4 := b5.out.cell (k := 4) rfl
    have hr5 := b5.out.cell (k := 5) rfl
    have hr6 := b5.out.cell (k := 6) rfl
    have hr7 := b5.out.cell (k := 7) rfl
    have hr8 := b5.out.cell (k := 8) rfl
    go_wp2_with fail
    refine bodyPost_ret (v := .agg #[.int .i64 h, .int .i64 l, .int .i64 r, .int .i64 lo, .int .i64 ro, .int .i64 rh, .int .i64 d, .int .i64 o, .int .i64 K]) ?_ rfl ?_
    · simp [results, Try.f57, asAddr, loadVar, loadCells, loadCellsFrom, Addr.add, hr0, hr1, hr2, hr3, hr4, hr5, hr6, hr7, hr8]
    · exact ⟨_, _, _, _, _, _, _, _, _, rfl, HD5.out, HU5.out⟩
end Go.Proofs.Ytbjeaadnanimfaa
