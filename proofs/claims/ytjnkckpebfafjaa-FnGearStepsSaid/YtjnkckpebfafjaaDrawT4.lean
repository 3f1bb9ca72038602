/- The draws of chapter 9: from the code. -/
import Derived.Test.YtjnkckpebfafjaaDrawT3
namespace Go.Proofs.Ytjnkckpebfafjaa
open Go.RowKit
set_option linter.unusedVariables false
set_option linter.unusedSimpArgs false

def DrawTc (w : World) (e : Ending) (w' : World) : Prop :=
  ∃ p1 c1 p2 c2 fs rs n , e = .returned (.agg #[.slice p1 fs.length c1, .slice p2 rs.length c2, .int .i64 n]) ∧ IntsAt w' p1 fs ∧ IntsAt w' p2 rs ∧ (fs.length ≤ 3 ∧ rs.length ≤ 10) ∧ Upd [] w w'
def DrawTi (w : World) (e : Ending) (w' : World) : Prop :=
  ∃ p1 c1 p2 c2 fs rs n t, e = .returned (.tuple #[.agg #[.slice p1 fs.length c1, .slice p2 rs.length c2, .int .i64 n], .int .i64 t]) ∧ IntsAt w' p1 fs ∧ IntsAt w' p2 rs ∧ (fs.length ≤ 3 ∧ rs.length ≤ 10) ∧ Upd [] w w'
def DrawTii (w : World) (e : Ending) (w' : World) : Prop :=
  ∃ p1 c1 p2 c2 fs rs n f r, e = .returned (.tuple #[.agg #[.slice p1 fs.length c1, .slice p2 rs.length c2, .int .i64 n], .int .i64 f, .int .i64 r]) ∧ IntsAt w' p1 fs ∧ IntsAt w' p2 rs ∧ (fs.length ≤ 3 ∧ rs.length ≤ 10) ∧ Upd [] w w'
def DrawTiii (w : World) (e : Ending) (w' : World) : Prop :=
  ∃ p1 c1 p2 c2 fs rs n f r t, e = .returned (.tuple #[.agg #[.slice p1 fs.length c1, .slice p2 rs.length c2, .int .i64 n], .int .i64 f, .int .i64 r, .int .i64 t]) ∧ IntsAt w' p1 fs ∧ IntsAt w' p2 rs ∧ (fs.length ≤ 3 ∧ rs.length ≤ 10) ∧ Upd [] w w'
set_option maxRecDepth 20000 in
set_option maxHeartbeats 6400000 in
theorem DrawNearestGear_c (a : Option Addr) (c : Nat) (bs : List Int) (w : World) (hc : U8At w a bs) (hl : bs.length ≤ 4096) : Calls Try.prog 13 #[.slice a bs.length c] w (DrawTi w) := by
  obtain ⟨B, hB⟩ : ∃ B, w.heap.size = B := ⟨_, rfl⟩
  have u1 : Upd [] w (w.alloc (.cells #[.slice none 0 0, .slice none 0 0, .int .i64 0] 26)) := (Upd.refl w).alloc _
  have RB := Box.new w (.slice none 0 0) (.slice none 0 0) (.int .i64 0) 26
  rw [hB] at RB
  have RB := Lib.hid RB
  have HC := Lib.hid (hc.kept0 u1)
  have s1 : (w.alloc (.cells #[.slice none 0 0, .slice none 0 0, .int .i64 0] 26)).heap.size = B + 1 := by simp [hB]
  clear hc
  go_enter Try.func13, Try.ntmps13
  go_wp2_with fail
  refine (l01From_c a c bs _ HC.out hl).mono ?_
  rintro e w1 ⟨g, rfl, hg, hd, hu⟩
  have D := Lib.hid hd
  replace RB := Lib.hid (RB.out.kept hu (by simp))
  have UF := Lib.hid (u1.then0 hu)
  have hBg : B < g := by omega
  have HgB : Hid (∀ k, k ∈ [g] → k < w1.heap.size) := fun k hk => by rw [List.mem_singleton.1 hk]; exact hd.lt
  have hg1 : g < w1.heap.size := hd.lt
  clear hd hu HC s1 u1 hg
  go_wp2_with fail
  refine (l09Draw_c g a c bs _ D.out).mono ?_
  rintro e wn ⟨gf, cf, gr, cr, fs, rs, n, rfl, o1, o2, ap, ⟨lf1, lf2, lr⟩, hd, hu⟩
  replace RB := Lib.hid (RB.out.kept hu (by simp; omega))
  replace D := Lib.hid hd
  have hsz := hu.size
  have bX := Box.new wn (.slice (some ⟨gf, 0, none⟩) fs.length cf) (.slice (some ⟨gr, 0, none⟩) rs.length cr) (.int .i64 n) 26
  have uX : Upd [] wn (wn.alloc (.cells #[.slice (some ⟨gf, 0, none⟩) fs.length cf, .slice (some ⟨gr, 0, none⟩) rs.length cr, .int .i64 n] 26)) := (Upd.refl wn).alloc _
  have T : Hid (TB (wn.alloc (.cells #[.slice (some ⟨gf, 0, none⟩) fs.length cf, .slice (some ⟨gr, 0, none⟩) rs.length cr, .int .i64 n] 26)) w1.heap.size wn.heap.size gf cf gr cr fs rs n) := ⟨bX, o1.kept0 uX, o2.kept0 uX, ap, hsz⟩
  replace D := Lib.hid (D.out.kept0 uX)
  replace RB := Lib.hid (RB.out.kept uX (by simp))
  have UX := Lib.hid (hu.then0 uX)
  clear hd hu o1 o2 uX bX
  go_wp2_with fail
  obtain ⟨X, hXe⟩ : ∃ X, wn.heap.size = X := ⟨_, rfl⟩
  rw [hXe] at T hsz ⊢
  have hXg : X ≠ g ∧ X ≠ B := by omega
  clear hXe hsz
  generalize wn.alloc (.cells #[.slice (some ⟨gf, 0, none⟩) fs.length cf, .slice (some ⟨gr, 0, none⟩) rs.length cr, .int .i64 n] 26) = w2 at T D RB UX ⊢
  have HS : Hid (∀ w', Upd [g, B] w2 w' → w'.cell? ⟨X, 0, none⟩ = some (.slice (some ⟨gf, 0, none⟩) fs.length cf) ∧ w'.cell? ⟨X, 1, none⟩ = some (.slice (some ⟨gr, 0, none⟩) rs.length cr) ∧ w'.cell? ⟨X, 2, none⟩ = some (.int .i64 n)) := fun w' u => (T.out.box.kept u (by simp; omega)).cells
  have V0 : Hid (Upd [g] w2 w2.drew) := (Upd.refl w2).drew.mono (by simp)
  have D0 := Lib.hid (D.out.kept0 (Upd.refl w2).drew)
  have MB : ∀ w', Upd [g] w2 w' → Upd [g, B] w2 w' := fun w' u => u.mono (by simp)
  obtain ⟨hs0, hs1, hs2⟩ := HS.out w2 ((Upd.refl w2).mono (by simp))
  go_wp2_with fail
  go_region_held3 (fun w' => w'.cell? ⟨X, 0, none⟩ = some (.slice (some ⟨gf, 0, none⟩) fs.length cf) ∧ w'.cell? ⟨X, 1, none⟩ = some (.slice (some ⟨gr, 0, none⟩) rs.length cr) ∧ w'.cell? ⟨X, 2, none⟩ = some (.int .i64 n))
    (first | exact HS.out _ ((Upd.refl w2).mono (by simp)) | exact HS.out _ (MB _ V0.out) | exact HS.out _ (MB _ V1.out) | exact HS.out _ (MB _ V2.out) | exact HS.out _ (MB _ (V2.out.alloc _)) | exact HS.out _ (MB _ V9.out) | exact HS.out _ ((((MB _ V9.out).setCell _ (.inl (by simp))).setCell _ (.inl (by simp))).setCell _ (.inl (by simp))))
    (first
      | (go_at_call 33
         refine (l01Pick_c g a c bs _ _ [1500 + x1, x2, 20000, 20001, -1] _ (D2.out.kept0 ((Upd.refl _).alloc _)) (lit_ints w12 [1500 + x1, x2, 20000, 20001, -1]) (fun ad e => by cases e; exact D2.out.lt) (by simp) (by simp)).mono ?_
         rintro e w6 ⟨t, rfl, -, hd, hu⟩
         have D4 := Lib.hid hd
         have V9 := Lib.hid ((V2.out.alloc _).then1 hu)
         clear hd hu
         have RB4 := Lib.hid (RB.out.kept V9.out (by simp; omega))
         obtain ⟨hm0, hm1, hm2⟩ := RB4.out.cells
         have hg0 := RB4.out.free 0
         have hg1 := RB4.out.free 1
         have hg2 := RB4.out.free 2)
      | (go_at_call 34
         refine (l01Next_c g a c bs _ _ D1.out).mono ?_
         rintro e w12 ⟨x2, rfl, hx2, hd, hu⟩
         have D2 := Lib.hid hd
         have V2 := Lib.hid (V1.out.then1 hu)
         clear hd hu
         have hw2 : IntKind.i64.wrap (0 + x2) = 0 + x2 := IntWalk.i64_in _ (by omega))
      | (go_at_call 34
         refine (l01Next_c g a c bs _ _ D0.out).mono ?_
         rintro e w11 ⟨x1, rfl, hx1, hd, hu⟩
         have D1 := Lib.hid hd
         have V1 := Lib.hid (V0.out.then1 hu)
         clear hd hu
         have hw1 : IntKind.i64.wrap (1500 + x1) = 1500 + x1 := IntWalk.i64_in _ (by omega)))
  have T4 := Lib.hid (T.out.kept V9.out HgB.out)
  have RBf := Lib.hid (((RB4.out.set0 (v := .slice (some ⟨gf, 0, none⟩) fs.length cf)).set1 (v := .slice (some ⟨gr, 0, none⟩) rs.length cr)).set2 (v := .int .i64 n))
  obtain ⟨hr0, hr1, hr2⟩ := RBf.out.cells
  have hu5 : Upd [B] w6 (((w6.setCell ⟨B, 0, none⟩ (.slice (some ⟨gf, 0, none⟩) fs.length cf)).setCell ⟨B, 1, none⟩ (.slice (some ⟨gr, 0, none⟩) rs.length cr)).setCell ⟨B, 2, none⟩ (.int .i64 n)) :=
    ((((Upd.refl w6).mono (gs := []) (hs := [B]) (by simp)).setCell _ (.inl (by simp))).setCell _ (.inl (by simp))).setCell _ (.inl (by simp))
  have hne1 := own_ne T4.out.f RB4.out
  have hne2 := own_ne T4.out.r RB4.out
  clear HS MB hs0 hs1 hs2 hm0 hm1 hm2 hg0 hg1 hg2
  go_wp2_with fail
  refine bodyPost_ret (v := .tuple #[.agg #[.slice (some ⟨gf, 0, none⟩) fs.length cf, .slice (some ⟨gr, 0, none⟩) rs.length cr, .int .i64 n], .int .i64 t]) ?_ rfl ?_
  · simp [results, Try.f13, asAddr, loadVar, loadCells, loadCellsFrom, Addr.add, hr0, hr1, hr2]
  · exact ⟨_, cf, _, cr, fs, rs, n, t, rfl, ((T4.out.f).keptNe hu5 (fun k hk => by cases hk; simpa using hne1)).ints, ((T4.out.r).keptNe hu5 (fun k hk => by cases hk; simpa using hne2)).ints, by omega, (UF.out.after0 (UX.out.then1 V9.out) (by simp; omega)).after0 hu5 (by simp; omega)⟩
set_option maxRecDepth 20000 in
set_option maxHeartbeats 6400000 in
theorem DrawCadenceFor_c (a : Option Addr) (c : Nat) (bs : List Int) (w : World) (hc : U8At w a bs) (hl : bs.length ≤ 4096) : Calls Try.prog 7 #[.slice a bs.length c] w (DrawTiii w) := by
  obtain ⟨B, hB⟩ : ∃ B, w.heap.size = B := ⟨_, rfl⟩
  have u1 : Upd [] w (w.alloc (.cells #[.slice none 0 0, .slice none 0 0, .int .i64 0] 26)) := (Upd.refl w).alloc _
  have RB := Box.new w (.slice none 0 0) (.slice none 0 0) (.int .i64 0) 26
  rw [hB] at RB
  have RB := Lib.hid RB
  have HC := Lib.hid (hc.kept0 u1)
  have s1 : (w.alloc (.cells #[.slice none 0 0, .slice none 0 0, .int .i64 0] 26)).heap.size = B + 1 := by simp [hB]
  clear hc
  go_enter Try.func7, Try.ntmps7
  go_wp2_with fail
  refine (l01From_c a c bs _ HC.out hl).mono ?_
  rintro e w1 ⟨g, rfl, hg, hd, hu⟩
  have D := Lib.hid hd
  replace RB := Lib.hid (RB.out.kept hu (by simp))
  have UF := Lib.hid (u1.then0 hu)
  have hBg : B < g := by omega
  have HgB : Hid (∀ k, k ∈ [g] → k < w1.heap.size) := fun k hk => by rw [List.mem_singleton.1 hk]; exact hd.lt
  have hg1 : g < w1.heap.size := hd.lt
  clear hd hu HC s1 u1 hg
  go_wp2_with fail
  refine (l09Some_c g a c bs _ D.out).mono ?_
  rintro e wn ⟨gf, cf, gr, cr, fs, rs, n, f, r, rfl, o1, o2, ap, ⟨lf1, lf2, lr⟩, hd, hu⟩
  replace RB := Lib.hid (RB.out.kept hu (by simp; omega))
  replace D := Lib.hid hd
  have hsz := hu.size
  have bX := Box.new wn (.slice (some ⟨gf, 0, none⟩) fs.length cf) (.slice (some ⟨gr, 0, none⟩) rs.length cr) (.int .i64 n) 26
  have uX : Upd [] wn (wn.alloc (.cells #[.slice (some ⟨gf, 0, none⟩) fs.length cf, .slice (some ⟨gr, 0, none⟩) rs.length cr, .int .i64 n] 26)) := (Upd.refl wn).alloc _
  have T : Hid (TB (wn.alloc (.cells #[.slice (some ⟨gf, 0, none⟩) fs.length cf, .slice (some ⟨gr, 0, none⟩) rs.length cr, .int .i64 n] 26)) w1.heap.size wn.heap.size gf cf gr cr fs rs n) := ⟨bX, o1.kept0 uX, o2.kept0 uX, ap, hsz⟩
  replace D := Lib.hid (D.out.kept0 uX)
  replace RB := Lib.hid (RB.out.kept uX (by simp))
  have UX := Lib.hid (hu.then0 uX)
  clear hd hu o1 o2 uX bX
  go_wp2_with fail
  obtain ⟨X, hXe⟩ : ∃ X, wn.heap.size = X := ⟨_, rfl⟩
  rw [hXe] at T hsz ⊢
  have hXg : X ≠ g ∧ X ≠ B := by omega
  clear hXe hsz
  generalize wn.alloc (.cells #[.slice (some ⟨gf, 0, none⟩) fs.length cf, .slice (some ⟨gr, 0, none⟩) rs.length cr, .int .i64 n] 26) = w2 at T D RB UX ⊢
  have HS : Hid (∀ w', Upd [g, B] w2 w' → w'.cell? ⟨X, 0, none⟩ = some (.slice (some ⟨gf, 0, none⟩) fs.length cf) ∧ w'.cell? ⟨X, 1, none⟩ = some (.slice (some ⟨gr, 0, none⟩) rs.length cr) ∧ w'.cell? ⟨X, 2, none⟩ = some (.int .i64 n)) := fun w' u => (T.out.box.kept u (by simp; omega)).cells
  have V0 : Hid (Upd [g] w2 w2.drew) := (Upd.refl w2).drew.mono (by simp)
  have D0 := Lib.hid (D.out.kept0 (Upd.refl w2).drew)
  have MB : ∀ w', Upd [g] w2 w' → Upd [g, B] w2 w' := fun w' u => u.mono (by simp)
  obtain ⟨hs0, hs1, hs2⟩ := HS.out w2 ((Upd.refl w2).mono (by simp))
  go_wp2_with fail
  go_region_held3 (fun w' => w'.cell? ⟨X, 0, none⟩ = some (.slice (some ⟨gf, 0, none⟩) fs.length cf) ∧ w'.cell? ⟨X, 1, none⟩ = some (.slice (some ⟨gr, 0, none⟩) rs.length cr) ∧ w'.cell? ⟨X, 2, none⟩ = some (.int .i64 n))
    (first | exact HS.out _ ((Upd.refl w2).mono (by simp)) | exact HS.out _ (MB _ V0.out) | exact HS.out _ (MB _ V1.out) | exact HS.out _ (MB _ V2.out) | exact HS.out _ (MB _ (V2.out.alloc _)) | exact HS.out _ (MB _ V9.out) | exact HS.out _ ((((MB _ V9.out).setCell _ (.inl (by simp))).setCell _ (.inl (by simp))).setCell _ (.inl (by simp))))
    (first
      | (go_at_call 33
         refine (l01Pick_c g a c bs _ _ [10000 + x1, 0, 200000, 200001, x2] _ (D2.out.kept0 ((Upd.refl _).alloc _)) (lit_ints w12 [10000 + x1, 0, 200000, 200001, x2]) (fun ad e => by cases e; exact D2.out.lt) (by simp) (by simp)).mono ?_
         rintro e w6 ⟨t, rfl, -, hd, hu⟩
         have D4 := Lib.hid hd
         have V9 := Lib.hid ((V2.out.alloc _).then1 hu)
         clear hd hu
         have RB4 := Lib.hid (RB.out.kept V9.out (by simp; omega))
         obtain ⟨hm0, hm1, hm2⟩ := RB4.out.cells
         have hg0 := RB4.out.free 0
         have hg1 := RB4.out.free 1
         have hg2 := RB4.out.free 2)
      | (go_at_call 34
         refine (l01Next_c g a c bs _ _ D1.out).mono ?_
         rintro e w12 ⟨x2, rfl, hx2, hd, hu⟩
         have D2 := Lib.hid hd
         have V2 := Lib.hid (V1.out.then1 hu)
         clear hd hu
         have hw2 : IntKind.i64.wrap (0 + x2) = 0 + x2 := IntWalk.i64_in _ (by omega))
      | (go_at_call 34
         refine (l01Next_c g a c bs _ _ D0.out).mono ?_
         rintro e w11 ⟨x1, rfl, hx1, hd, hu⟩
         have D1 := Lib.hid hd
         have V1 := Lib.hid (V0.out.then1 hu)
         clear hd hu
         have hw1 : IntKind.i64.wrap (10000 + x1) = 10000 + x1 := IntWalk.i64_in _ (by omega)))
  have T4 := Lib.hid (T.out.kept V9.out HgB.out)
  have RBf := Lib.hid (((RB4.out.set0 (v := .slice (some ⟨gf, 0, none⟩) fs.length cf)).set1 (v := .slice (some ⟨gr, 0, none⟩) rs.length cr)).set2 (v := .int .i64 n))
  obtain ⟨hr0, hr1, hr2⟩ := RBf.out.cells
  have hu5 : Upd [B] w6 (((w6.setCell ⟨B, 0, none⟩ (.slice (some ⟨gf, 0, none⟩) fs.length cf)).setCell ⟨B, 1, none⟩ (.slice (some ⟨gr, 0, none⟩) rs.length cr)).setCell ⟨B, 2, none⟩ (.int .i64 n)) :=
    ((((Upd.refl w6).mono (gs := []) (hs := [B]) (by simp)).setCell _ (.inl (by simp))).setCell _ (.inl (by simp))).setCell _ (.inl (by simp))
  have hne1 := own_ne T4.out.f RB4.out
  have hne2 := own_ne T4.out.r RB4.out
  clear HS MB hs0 hs1 hs2 hm0 hm1 hm2 hg0 hg1 hg2
  go_wp2_with fail
  refine bodyPost_ret (v := .tuple #[.agg #[.slice (some ⟨gf, 0, none⟩) fs.length cf, .slice (some ⟨gr, 0, none⟩) rs.length cr, .int .i64 n], .int .i64 f, .int .i64 r, .int .i64 t]) ?_ rfl ?_
  · simp [results, Try.f7, asAddr, loadVar, loadCells, loadCellsFrom, Addr.add, hr0, hr1, hr2]
  · exact ⟨_, cf, _, cr, fs, rs, n, f, r, t, rfl, ((T4.out.f).keptNe hu5 (fun k hk => by cases hk; simpa using hne1)).ints, ((T4.out.r).keptNe hu5 (fun k hk => by cases hk; simpa using hne2)).ints, by omega, (UF.out.after0 (UX.out.then1 V9.out) (by simp; omega)).after0 hu5 (by simp; omega)⟩
set_option maxRecDepth 20000 in
set_option maxHeartbeats 6400000 in
theorem DrawSpeedAt_c (a : Option Addr) (c : Nat) (bs : List Int) (w : World) (hc : U8At w a bs) (hl : bs.length ≤ 4096) : Calls Try.prog 10 #[.slice a bs.length c] w (DrawTiii w) := by
  obtain ⟨B, hB⟩ : ∃ B, w.heap.size = B := ⟨_, rfl⟩
  have u1 : Upd [] w (w.alloc (.cells #[.slice none 0 0, .slice none 0 0, .int .i64 0] 26)) := (Upd.refl w).alloc _
  have RB := Box.new w (.slice none 0 0) (.slice none 0 0) (.int .i64 0) 26
  rw [hB] at RB
  have RB := Lib.hid RB
  have HC := Lib.hid (hc.kept0 u1)
  have s1 : (w.alloc (.cells #[.slice none 0 0, .slice none 0 0, .int .i64 0] 26)).heap.size = B + 1 := by simp [hB]
  clear hc
  go_enter Try.func10, Try.ntmps10
  go_wp2_with fail
  refine (l01From_c a c bs _ HC.out hl).mono ?_
  rintro e w1 ⟨g, rfl, hg, hd, hu⟩
  have D := Lib.hid hd
  replace RB := Lib.hid (RB.out.kept hu (by simp))
  have UF := Lib.hid (u1.then0 hu)
  have hBg : B < g := by omega
  have HgB : Hid (∀ k, k ∈ [g] → k < w1.heap.size) := fun k hk => by rw [List.mem_singleton.1 hk]; exact hd.lt
  have hg1 : g < w1.heap.size := hd.lt
  clear hd hu HC s1 u1 hg
  go_wp2_with fail
  refine (l09Some_c g a c bs _ D.out).mono ?_
  rintro e wn ⟨gf, cf, gr, cr, fs, rs, n, f, r, rfl, o1, o2, ap, ⟨lf1, lf2, lr⟩, hd, hu⟩
  replace RB := Lib.hid (RB.out.kept hu (by simp; omega))
  replace D := Lib.hid hd
  have hsz := hu.size
  have bX := Box.new wn (.slice (some ⟨gf, 0, none⟩) fs.length cf) (.slice (some ⟨gr, 0, none⟩) rs.length cr) (.int .i64 n) 26
  have uX : Upd [] wn (wn.alloc (.cells #[.slice (some ⟨gf, 0, none⟩) fs.length cf, .slice (some ⟨gr, 0, none⟩) rs.length cr, .int .i64 n] 26)) := (Upd.refl wn).alloc _
  have T : Hid (TB (wn.alloc (.cells #[.slice (some ⟨gf, 0, none⟩) fs.length cf, .slice (some ⟨gr, 0, none⟩) rs.length cr, .int .i64 n] 26)) w1.heap.size wn.heap.size gf cf gr cr fs rs n) := ⟨bX, o1.kept0 uX, o2.kept0 uX, ap, hsz⟩
  replace D := Lib.hid (D.out.kept0 uX)
  replace RB := Lib.hid (RB.out.kept uX (by simp))
  have UX := Lib.hid (hu.then0 uX)
  clear hd hu o1 o2 uX bX
  go_wp2_with fail
  obtain ⟨X, hXe⟩ : ∃ X, wn.heap.size = X := ⟨_, rfl⟩
  rw [hXe] at T hsz ⊢
  have hXg : X ≠ g ∧ X ≠ B := by omega
  clear hXe hsz
  generalize wn.alloc (.cells #[.slice (some ⟨gf, 0, none⟩) fs.length cf, .slice (some ⟨gr, 0, none⟩) rs.length cr, .int .i64 n] 26) = w2 at T D RB UX ⊢
  have HS : Hid (∀ w', Upd [g, B] w2 w' → w'.cell? ⟨X, 0, none⟩ = some (.slice (some ⟨gf, 0, none⟩) fs.length cf) ∧ w'.cell? ⟨X, 1, none⟩ = some (.slice (some ⟨gr, 0, none⟩) rs.length cr) ∧ w'.cell? ⟨X, 2, none⟩ = some (.int .i64 n)) := fun w' u => (T.out.box.kept u (by simp; omega)).cells
  have V0 : Hid (Upd [g] w2 w2.drew) := (Upd.refl w2).drew.mono (by simp)
  have D0 := Lib.hid (D.out.kept0 (Upd.refl w2).drew)
  have MB : ∀ w', Upd [g] w2 w' → Upd [g, B] w2 w' := fun w' u => u.mono (by simp)
  obtain ⟨hs0, hs1, hs2⟩ := HS.out w2 ((Upd.refl w2).mono (by simp))
  go_wp2_with fail
  go_region_held3 (fun w' => w'.cell? ⟨X, 0, none⟩ = some (.slice (some ⟨gf, 0, none⟩) fs.length cf) ∧ w'.cell? ⟨X, 1, none⟩ = some (.slice (some ⟨gr, 0, none⟩) rs.length cr) ∧ w'.cell? ⟨X, 2, none⟩ = some (.int .i64 n))
    (first | exact HS.out _ ((Upd.refl w2).mono (by simp)) | exact HS.out _ (MB _ V0.out) | exact HS.out _ (MB _ V1.out) | exact HS.out _ (MB _ (V1.out.alloc _)) | exact HS.out _ (MB _ V9.out) | exact HS.out _ ((((MB _ V9.out).setCell _ (.inl (by simp))).setCell _ (.inl (by simp))).setCell _ (.inl (by simp))))
    (first
      | (go_at_call 33
         refine (l01Pick_c g a c bs _ _ [60 + x1, 0, 200, 201, -1] _ (D1.out.kept0 ((Upd.refl _).alloc _)) (lit_ints w11 [60 + x1, 0, 200, 201, -1]) (fun ad e => by cases e; exact D1.out.lt) (by simp) (by simp)).mono ?_
         rintro e w6 ⟨t, rfl, -, hd, hu⟩
         have D4 := Lib.hid hd
         have V9 := Lib.hid ((V1.out.alloc _).then1 hu)
         clear hd hu
         have RB4 := Lib.hid (RB.out.kept V9.out (by simp; omega))
         obtain ⟨hm0, hm1, hm2⟩ := RB4.out.cells
         have hg0 := RB4.out.free 0
         have hg1 := RB4.out.free 1
         have hg2 := RB4.out.free 2)
      | (go_at_call 34
         refine (l01Next_c g a c bs _ _ D0.out).mono ?_
         rintro e w11 ⟨x1, rfl, hx1, hd, hu⟩
         have D1 := Lib.hid hd
         have V1 := Lib.hid (V0.out.then1 hu)
         clear hd hu
         have hw1 : IntKind.i64.wrap (60 + x1) = 60 + x1 := IntWalk.i64_in _ (by omega)))
  have T4 := Lib.hid (T.out.kept V9.out HgB.out)
  have RBf := Lib.hid (((RB4.out.set0 (v := .slice (some ⟨gf, 0, none⟩) fs.length cf)).set1 (v := .slice (some ⟨gr, 0, none⟩) rs.length cr)).set2 (v := .int .i64 n))
  obtain ⟨hr0, hr1, hr2⟩ := RBf.out.cells
  have hu5 : Upd [B] w6 (((w6.setCell ⟨B, 0, none⟩ (.slice (some ⟨gf, 0, none⟩) fs.length cf)).setCell ⟨B, 1, none⟩ (.slice (some ⟨gr, 0, none⟩) rs.length cr)).setCell ⟨B, 2, none⟩ (.int .i64 n)) :=
    ((((Upd.refl w6).mono (gs := []) (hs := [B]) (by simp)).setCell _ (.inl (by simp))).setCell _ (.inl (by simp))).setCell _ (.inl (by simp))
  have hne1 := own_ne T4.out.f RB4.out
  have hne2 := own_ne T4.out.r RB4.out
  clear HS MB hs0 hs1 hs2 hm0 hm1 hm2 hg0 hg1 hg2
  go_wp2_with fail
  refine bodyPost_ret (v := .tuple #[.agg #[.slice (some ⟨gf, 0, none⟩) fs.length cf, .slice (some ⟨gr, 0, none⟩) rs.length cr, .int .i64 n], .int .i64 f, .int .i64 r, .int .i64 t]) ?_ rfl ?_
  · simp [results, Try.f10, asAddr, loadVar, loadCells, loadCellsFrom, Addr.add, hr0, hr1, hr2]
  · exact ⟨_, cf, _, cr, fs, rs, n, f, r, t, rfl, ((T4.out.f).keptNe hu5 (fun k hk => by cases hk; simpa using hne1)).ints, ((T4.out.r).keptNe hu5 (fun k hk => by cases hk; simpa using hne2)).ints, by omega, (UF.out.after0 (UX.out.then1 V9.out) (by simp; omega)).after0 hu5 (by simp; omega)⟩
set_option maxRecDepth 20000 in
set_option maxHeartbeats 6400000 in
theorem DrawDevelopmentOf_c (a : Option Addr) (c : Nat) (bs : List Int) (w : World) (hc : U8At w a bs) (hl : bs.length ≤ 4096) : Calls Try.prog 18 #[.slice a bs.length c] w (DrawTii w) := by
  obtain ⟨B, hB⟩ : ∃ B, w.heap.size = B := ⟨_, rfl⟩
  have u1 : Upd [] w (w.alloc (.cells #[.slice none 0 0, .slice none 0 0, .int .i64 0] 26)) := (Upd.refl w).alloc _
  have RB := Box.new w (.slice none 0 0) (.slice none 0 0) (.int .i64 0) 26
  rw [hB] at RB
  have RB := Lib.hid RB
  have HC := Lib.hid (hc.kept0 u1)
  have s1 : (w.alloc (.cells #[.slice none 0 0, .slice none 0 0, .int .i64 0] 26)).heap.size = B + 1 := by simp [hB]
  clear hc
  go_enter Try.func18, Try.ntmps18
  go_wp2_with fail
  refine (l01From_c a c bs _ HC.out hl).mono ?_
  rintro e w1 ⟨g, rfl, hg, hd, hu⟩
  have D := Lib.hid hd
  replace RB := Lib.hid (RB.out.kept hu (by simp))
  have UF := Lib.hid (u1.then0 hu)
  have hBg : B < g := by omega
  have HgB : Hid (∀ k, k ∈ [g] → k < w1.heap.size) := fun k hk => by rw [List.mem_singleton.1 hk]; exact hd.lt
  have hg1 : g < w1.heap.size := hd.lt
  clear hd hu HC s1 u1 hg
  go_wp2_with fail
  refine (l09Some_c g a c bs _ D.out).mono ?_
  rintro e wn ⟨gf, cf, gr, cr, fs, rs, n, f, r, rfl, o1, o2, ap, ⟨lf1, lf2, lr⟩, hd, hu⟩
  replace RB := Lib.hid (RB.out.kept hu (by simp; omega))
  replace D := Lib.hid hd
  have hne1 := own_ne o1 RB.out
  have hne2 := own_ne o2 RB.out
  obtain ⟨hm0, hm1, hm2⟩ := RB.out.cells
  have hf0 := RB.out.free 0
  have hf1 := RB.out.free 1
  have hf2 := RB.out.free 2
  obtain ⟨w6, ew6⟩ : ∃ x : World, x = wn := ⟨_, rfl⟩
  subst ew6
  go_wp2_with fail
  have RBf := Lib.hid (((RB.out.set0 (v := .slice (some ⟨gf, 0, none⟩) fs.length cf)).set1 (v := .slice (some ⟨gr, 0, none⟩) rs.length cr)).set2 (v := .int .i64 n))
  obtain ⟨hr0, hr1, hr2⟩ := RBf.out.cells
  have hu5 : Upd [B] w6 (((w6.setCell ⟨B, 0, none⟩ (.slice (some ⟨gf, 0, none⟩) fs.length cf)).setCell ⟨B, 1, none⟩ (.slice (some ⟨gr, 0, none⟩) rs.length cr)).setCell ⟨B, 2, none⟩ (.int .i64 n)) :=
    ((((Upd.refl w6).mono (gs := []) (hs := [B]) (by simp)).setCell _ (.inl (by simp))).setCell _ (.inl (by simp))).setCell _ (.inl (by simp))
  refine bodyPost_ret (v := .tuple #[.agg #[.slice (some ⟨gf, 0, none⟩) fs.length cf, .slice (some ⟨gr, 0, none⟩) rs.length cr, .int .i64 n], .int .i64 f, .int .i64 r]) ?_ rfl ?_
  · simp [results, Try.f18, asAddr, loadVar, loadCells, loadCellsFrom, Addr.add, hr0, hr1, hr2]
  · exact ⟨_, cf, _, cr, fs, rs, n, f, r, rfl, (o1.keptNe hu5 (fun k hk => by cases hk; simpa using hne1)).ints, (o2.keptNe hu5 (fun k hk => by cases hk; simpa using hne2)).ints, by omega, (UF.out.after0 hu (by simp; omega)).after0 hu5 (by simp; omega)⟩
end Go.Proofs.Ytjnkckpebfafjaa
