/- The draws of chapter 9: a train, rarely something else. -/
import Derived.Test.YtjnkckpebfafjaaDrawT
namespace Go.Proofs.Ytjnkckpebfafjaa
open Go.RowKit
set_option linter.unusedVariables false
set_option linter.unusedSimpArgs false

theorem TB.setF {w : World} {B X gf cf gr cr : Nat} {fs rs : List Int} {n : Int} (h : TB w B X gf cf gr cr fs rs n) (k : Nat) (z : Int) (hk : k < fs.length) : TB (w.setCell ⟨gf, k, none⟩ (.int .i64 z)) B X gf cf gr cr (fs.set k z) rs n := by
  have e : (fs.set k z).length = fs.length := by simp
  have h1 := own_ne h.f h.box
  have v : Upd [gf] w (w.setCell ⟨gf, k, none⟩ (.int .i64 z)) := ((Upd.refl w).mono (by simp)).setCell _ (.inl (by simp))
  refine ⟨by rw [e]; exact h.box.kept v (by simp; omega), by rw [e]; exact h.f.set k z hk, h.r.keptNe v (fun k hk => by cases hk; have := h.ap; simp; omega), h.ap, h.low⟩
theorem TB.setN {w : World} {B X gf cf gr cr : Nat} {fs rs : List Int} {n : Int} (h : TB w B X gf cf gr cr fs rs n) (z : Int) : TB (w.setCell ⟨X, 2, none⟩ (.int .i64 z)) B X gf cf gr cr fs rs z := by
  have h1 := own_ne h.f h.box
  have h2 := own_ne h.r h.box
  have v : Upd [X] w (w.setCell ⟨X, 2, none⟩ (.int .i64 z)) := ((Upd.refl w).mono (by simp)).setCell _ (.inl (by simp))
  exact ⟨h.box.set2, h.f.keptNe v (fun k hk => by cases hk; simpa using h1), h.r.keptNe v (fun k hk => by cases hk; simpa using h2), h.ap, h.low⟩
theorem TB.setR {w : World} {B X gf cf gr cr : Nat} {fs rs : List Int} {n : Int} (h : TB w B X gf cf gr cr fs rs n) {g' c' : Nat} (o : OwnI w B (.slice (some ⟨g', 0, none⟩) 0 c') []) (hn : gf ≠ g') : TB (w.setCell ⟨X, 1, none⟩ (.slice (some ⟨g', 0, none⟩) 0 c')) B X gf cf g' c' fs [] n := by
  have h1 := own_ne h.f h.box
  have h2 := own_ne o h.box
  have v : Upd [X] w (w.setCell ⟨X, 1, none⟩ (.slice (some ⟨g', 0, none⟩) 0 c')) := ((Upd.refl w).mono (by simp)).setCell _ (.inl (by simp))
  exact ⟨h.box.set1, h.f.keptNe v (fun k hk => by cases hk; simpa using h1), o.keptNe v (fun k hk => by cases hk; simpa using h2), hn, h.low⟩
/-- A train has been drawn, rarely something else. -/
def DrawT2 (w : World) (g : Nat) (a : Option Addr) (c : Nat) (bs : List Int) (e : Ending) (w' : World) : Prop :=
  ∃ gf cf gr cr fs rs n, e = .returned (.agg #[.slice (some ⟨gf, 0, none⟩) fs.length cf, .slice (some ⟨gr, 0, none⟩) rs.length cr, .int .i64 n]) ∧ OwnI w' w.heap.size (.slice (some ⟨gf, 0, none⟩) fs.length cf) fs ∧ OwnI w' w.heap.size (.slice (some ⟨gr, 0, none⟩) rs.length cr) rs ∧ gf ≠ gr ∧
    (1 ≤ fs.length ∧ fs.length ≤ 3 ∧ rs.length ≤ 10) ∧ DC w' g a c bs ∧ Upd [g] w w'
set_option maxRecDepth 20000 in
set_option maxHeartbeats 6400000 in
theorem l09Draw_c (g : Nat) (a : Option Addr) (c : Nat) (bs : List Int) (w : World) (h : DC w g a c bs) : Calls Try.prog 41 #[.pointer (some ⟨g, 0, none⟩)] w (DrawT2 w g a c bs) := by
  have HgB : Hid (∀ k, k ∈ [g] → k < w.heap.size) := fun k hk => by rw [List.mem_singleton.1 hk]; exact h.lt
  obtain ⟨B, hB⟩ : ∃ B, w.heap.size = B := ⟨_, rfl⟩
  have u1 : Upd [] w (w.alloc (.cells #[.slice none 0 0, .slice none 0 0, .int .i64 0] 26)) := (Upd.refl w).alloc _
  have RB := Box.new w (.slice none 0 0) (.slice none 0 0) (.int .i64 0) 26
  rw [hB] at RB
  have RB := Lib.hid RB
  have D := Lib.hid (h.kept0 u1)
  have U : Hid (Upd [g] w (w.alloc (.cells #[.slice none 0 0, .slice none 0 0, .int .i64 0] 26))) := u1.mono (by simp)
  have s1 : B ≤ (w.alloc (.cells #[.slice none 0 0, .slice none 0 0, .int .i64 0] 26)).heap.size := by simp [hB]
  clear h u1
  go_enter Try.func41, Try.ntmps41
  go_wp2_with fail
  refine (l09Good_c g a c bs _ D.out).mono ?_
  rintro e wn ⟨gf, cf, gr, cr, fs, rs, n, rfl, o1, o2, ap, ⟨lf1, lf2, lr⟩, hd, hu⟩
  replace RB := Lib.hid (RB.out.kept hu (fun hm => by have := HgB.out _ hm; omega))
  replace D := Lib.hid hd
  replace U := Lib.hid (U.out.then1 hu)
  have OF := Lib.hid (o1.mono s1)
  have OR := Lib.hid (o2.mono s1)
  clear hd hu s1 o1 o2
  have bX := Box.new wn (.slice (some ⟨gf, 0, none⟩) fs.length cf) (.slice (some ⟨gr, 0, none⟩) rs.length cr) (.int .i64 n) 26
  have uX : Upd [] wn (wn.alloc (.cells #[.slice (some ⟨gf, 0, none⟩) fs.length cf, .slice (some ⟨gr, 0, none⟩) rs.length cr, .int .i64 n] 26)) := (Upd.refl wn).alloc _
  have hlt := RB.out.lt
  have T : Hid (TB (wn.alloc (.cells #[.slice (some ⟨gf, 0, none⟩) fs.length cf, .slice (some ⟨gr, 0, none⟩) rs.length cr, .int .i64 n] 26)) B wn.heap.size gf cf gr cr fs rs n) := ⟨bX, OF.out.kept0 uX, OR.out.kept0 uX, ap, by omega⟩
  replace D := Lib.hid (D.out.kept0 uX)
  replace RB := Lib.hid (RB.out.kept uX (by simp))
  replace U := Lib.hid (U.out.then0 uX)
  clear OF OR uX bX
  go_wp2_with fail
  obtain ⟨X, hXe⟩ : ∃ X, wn.heap.size = X := ⟨_, rfl⟩
  rw [hXe] at T hlt ⊢
  have hXne : X ≠ B := by omega
  clear hXe hlt
  generalize wn.alloc (.cells #[.slice (some ⟨gf, 0, none⟩) fs.length cf, .slice (some ⟨gr, 0, none⟩) rs.length cr, .int .i64 n] 26) = w2 at T D RB U ⊢
  refine (l01Next_c g a c bs _ _ D.out).mono ?_
  rintro e wn ⟨k, rfl, hk, hd, hu⟩
  replace T := Lib.hid (T.out.kept hu (by rw [← hB]; exact HgB.out))
  replace RB := Lib.hid (RB.out.kept hu (fun hm => by have := HgB.out _ hm; omega))
  replace D := Lib.hid hd
  replace U := Lib.hid (U.out.then1 hu)
  clear hd hu
  by_cases k0 : k = 0
  · subst k0
    obtain ⟨w5, ew5⟩ : ∃ x : World, x = wn := ⟨_, rfl⟩
    subst ew5
    have hb0 := T.out.box.cells.1
    have DD : Hid (∀ w', Upd [] w5 w' → DC w' g a c bs) := fun w' u => D.out.kept0 u
    have hgl := D.out.lt
    clear D
    go_wp2_with fail
    have HS : Hid (∀ w', Upd [g] w5 w' → w'.cell? ⟨X, 0, none⟩ = some (.slice (some ⟨gf, 0, none⟩) fs.length cf)) := fun w' u => (T.out.kept u (by rw [← hB]; exact HgB.out)).box.cells.1
    have hneX := own_ne T.out.f T.out.box
    have i1 : (0 : Int) < (fs.length : Int) := by omega
    have i2 : 0 < fs.length := by omega
    clear hb0
    go_region_held3 (fun w' => w'.cell? ⟨X, 0, none⟩ = some (.slice (some ⟨gf, 0, none⟩) fs.length cf))
      (first | exact HS.out _ ((Upd.refl w5).mono (by simp)) | exact HS.out _ ((Upd.refl w5).drew.mono (by simp)) | exact HS.out _ (((Upd.refl w5).drew.alloc _).mono (by simp)) | exact HS.out _ V.out | exact (((Upd.refl w6).mono (gs := []) (hs := [gf]) (by simp)).setCell (p := ⟨gf, 0, none⟩) (.int .i64 z) (.inl (by simp))).cell (HS.out _ V.out) (by simp; omega))
      (first
        | (go_at_call 33
           refine (l01Pick_c g a c bs _ _ [19, 20, 60, 61] _ (DD.out _ ?_) (lit_ints w5.drew [19, 20, 60, 61]) (fun ad e => by cases e; simpa using hgl) (by simp) (by simp)).mono ?_
           exact (Upd.refl _).drew.alloc _
           rintro e w6 ⟨z, rfl, hz, hd, hu⟩
           have V := Lib.hid (((Upd.refl w5).drew.alloc (.cells #[.int .i64 19, .int .i64 20, .int .i64 60, .int .i64 61] 2)).mono (hs := [g]) (by simp) |>.then1 hu)
           have D6 := Lib.hid hd
           have T6 := Lib.hid (T.out.kept V.out (by rw [← hB]; exact HgB.out))
           have U6 := Lib.hid (U.out.then1 V.out)
           have RB6 := Lib.hid (RB.out.kept V.out (fun hm => by have := HgB.out _ hm; omega))
           clear hd hu
           have hd6 := T6.out.f.cell (k := 0) (List.getElem?_eq_getElem (by omega))
           have hf6 := T6.out.f.free 0))
    all_goals
      clear hd6 hf6 V HS i1 i2 hneX
      have hgfB := (own_lt T6.out.f).1
      have V9 : Upd [gf] w6 (w6.setCell ⟨gf, 0, none⟩ (.int .i64 z)) := ((Upd.refl w6).mono (by simp)).setCell _ (.inl (by simp))
      have hne := own_ne T6.out.f RB6.out
      have D := Lib.hid (D6.out.kept V9 (fun k hk => by rw [List.mem_singleton.1 hk]; have := HgB.out g (by simp); omega))
      replace U := Lib.hid (U6.out.afterB V9 (fun k hk => by rw [List.mem_singleton.1 hk]; omega))
      replace RB := Lib.hid (RB6.out.kept V9 (by simp; omega))
      replace T := Lib.hid (T6.out.setF 0 z (by omega))
      clear T6 U6 D6 RB6 V9 hne hgfB DD hgl
      have hl2 : 1 ≤ (fs.set 0 z).length ∧ (fs.set 0 z).length ≤ 3 := by simp; omega
      generalize fs.set 0 z = fs2 at T hl2
      generalize w6.setCell ⟨gf, 0, none⟩ (.int .i64 z) = w7 at T D RB U ⊢
      obtain ⟨hb0, hb1, hb2⟩ := T.out.box.cells
      obtain ⟨hm0, hm1, hm2⟩ := RB.out.cells
      have hg0 := RB.out.free 0
      have hg1 := RB.out.free 1
      have hg2 := RB.out.free 2
      have HLn := Lib.hid ((show 1 ≤ fs2.length ∧ fs2.length ≤ 3 ∧ rs.length ≤ 10 by omega))
      obtain ⟨w5, ew5⟩ : ∃ x : World, x = w7 := ⟨_, rfl⟩
      subst ew5
      go_wp2_with fail
      have RBf := Lib.hid (((RB.out.set0 (v := .slice (some ⟨gf, 0, none⟩) fs2.length cf)).set1 (v := .slice (some ⟨gr, 0, none⟩) rs.length cr)).set2 (v := .int .i64 n))
      obtain ⟨hr0, hr1, hr2⟩ := RBf.out.cells
      have hu5 : Upd [B] w5 (((w5.setCell ⟨B, 0, none⟩ (.slice (some ⟨gf, 0, none⟩) fs2.length cf)).setCell ⟨B, 1, none⟩ (.slice (some ⟨gr, 0, none⟩) rs.length cr)).setCell ⟨B, 2, none⟩ (.int .i64 n)) :=
        ((((Upd.refl w5).mono (gs := []) (hs := [B]) (by simp)).setCell _ (.inl (by simp))).setCell _ (.inl (by simp))).setCell _ (.inl (by simp))
      have hne1 := own_ne T.out.f RB.out
      have hne2 := own_ne T.out.r RB.out
      refine bodyPost_ret (v := .agg #[.slice (some ⟨gf, 0, none⟩) fs2.length cf, .slice (some ⟨gr, 0, none⟩) rs.length cr, .int .i64 n]) ?_ rfl ?_
      · simp [results, Try.f41, asAddr, loadVar, loadCells, loadCellsFrom, Addr.add, hr0, hr1, hr2]
      · exact ⟨gf, cf, gr, cr, fs2, rs, n, rfl, by rw [hB]; exact (T.out.f).keptNe hu5 (fun k hk => by cases hk; simpa using hne1), by rw [hB]; exact (T.out.r).keptNe hu5 (fun k hk => by cases hk; simpa using hne2), T.out.ap, HLn.out, (D.out).kept hu5 (fun k hk => by rw [List.mem_singleton.1 hk]; have := HgB.out g (by simp); omega), (U.out).afterB hu5 (fun k hk => by rw [List.mem_singleton.1 hk]; omega)⟩
  · by_cases k1 : k = 1
    · subst k1
      obtain ⟨w5, ew5⟩ : ∃ x : World, x = wn := ⟨_, rfl⟩
      subst ew5
      have DD : Hid (∀ w', Upd [] w5 w' → DC w' g a c bs) := fun w' u => D.out.kept0 u
      have hgl := D.out.lt
      clear D
      go_wp2_with fail
      have hb1 := T.out.box.cells.2.1
      have hb2 := (T.out.kept0 ((Upd.refl w5).alloc (.cells #[.int .i64 52, .int .i64 53, .int .i64 9] 2))).box.cells.2.1
      go_region_law
        (first
          | (go_simp
             go_at_call 33
             refine (l01Pick_c g a c bs _ _ [52, 53, 9] _ (DD.out _ ?_) ((lit_ints w5 [52, 53, 9]).kept0 (Upd.refl _).drew) (fun ad e => by cases e; simpa using hgl) (by simp) (by simp)).mono ?_
             exact ((Upd.refl _).alloc _).drew
             rintro e w6 ⟨z, rfl, hz, hd, hu⟩
             have V := Lib.hid (((Upd.refl w5).alloc (.cells #[.int .i64 52, .int .i64 53, .int .i64 9] 2)).drew.mono (hs := [g]) (by simp) |>.then1 hu)
             have D6 := Lib.hid (hd.kept0 ((Upd.refl w6).alloc (.cells #[.int .i64 z] 2)))
             have T6 := Lib.hid ((T.out.kept V.out (by rw [← hB]; exact HgB.out)).kept0 ((Upd.refl w6).alloc (.cells #[.int .i64 z] 2)))
             have U6 := Lib.hid ((U.out.then1 V.out).alloc (.cells #[.int .i64 z] 2))
             have RB6 := Lib.hid ((RB.out.kept V.out (fun hm => by have := HgB.out _ hm; omega)).kept ((Upd.refl w6).alloc (.cells #[.int .i64 z] 2)) (by simp))
             have hb6 := (T.out.kept V.out (by rw [← hB]; exact HgB.out)).box.cells.2.1
             have hb7 := T6.out.box.cells.2.1
             clear hd hu)
          | (go_simp
             go_at_call 33
             refine (l01Pick_c g a c bs _ _ [52, 53, 9] _ (DD.out _ ?_) (lit_ints w5.drew [52, 53, 9]) (fun ad e => by cases e; simpa using hgl) (by simp) (by simp)).mono ?_
             exact (Upd.refl _).drew.alloc _
             rintro e w6 ⟨z, rfl, hz, hd, hu⟩
             have V := Lib.hid (((Upd.refl w5).drew.alloc (.cells #[.int .i64 52, .int .i64 53, .int .i64 9] 2)).mono (hs := [g]) (by simp) |>.then1 hu)
             have D6 := Lib.hid (hd.kept0 ((Upd.refl w6).alloc (.cells #[.int .i64 z] 2)))
             have T6 := Lib.hid ((T.out.kept V.out (by rw [← hB]; exact HgB.out)).kept0 ((Upd.refl w6).alloc (.cells #[.int .i64 z] 2)))
             have U6 := Lib.hid ((U.out.then1 V.out).alloc (.cells #[.int .i64 z] 2))
             have RB6 := Lib.hid ((RB.out.kept V.out (fun hm => by have := HgB.out _ hm; omega)).kept ((Upd.refl w6).alloc (.cells #[.int .i64 z] 2)) (by simp))
             have hb6 := (T.out.kept V.out (by rw [← hB]; exact HgB.out)).box.cells.2.1
             have hb7 := T6.out.box.cells.2.1
             clear hd hu)
          | (refine step_appF rfl _ _ rfl rs z ⟨w6.heap.size, 0, none⟩ 1 rfl rfl T6.out.r (by have := T6.out.box.lt; have := T6.out.low; omega) (by omega) (by have := cell_one_new w6 (.int .i64 z) 2 0 (.int .i64 z) rfl; rwa [Addr.add_lit] at this) rfl ?_
             intro g' c' w9 z1 z2 z3
             have hc9 := (T6.out.box.kept z2 (by have := own_ne T6.out.r T6.out.box; simp; omega)).cells.2.1
             have hf9 := (T6.out.box.kept z2 (by have := own_ne T6.out.r T6.out.box; simp; omega)).free 1
             have T9 := Lib.hid (T6.out.snocR z1 z2 z3)
             have V9 := Lib.hid ((z2.mono (hs := [gr, X]) (by simp)).setCell (p := ⟨X, 1, none⟩) (.slice (some ⟨g', 0, none⟩) (rs.length + 1) c') (.inl (by simp)))
             clear z1 z2 z3))
      all_goals
        clear hc9 hf9 hb1 hb2 hb6 hb7 V
        have hXB := T6.out.low
        have hgfB := (own_lt T6.out.r).1
        have hXg : ∀ k, k ∈ [gr, X] → B ≤ k := by simp; omega
        have hBne : B ∉ [gr, X] := by have h1 := own_ne T6.out.r RB6.out; simp; omega
        have D := Lib.hid (D6.out.kept V9.out (fun k hk => by have := hXg k hk; have := HgB.out g (by simp); omega))
        replace RB := Lib.hid (RB6.out.kept V9.out hBne)
        replace U := Lib.hid (U6.out.afterB V9.out (fun k hk => by have := hXg k hk; omega))
        replace T := T9
        clear V9 hXg hBne hgfB T9 T6 D6 U6 RB6 hXB DD hgl
        have hl2 : (rs ++ [z]).length ≤ 10 := by simp; omega
        have e1 : rs.length + 1 = (rs ++ [z]).length := by simp
        rw [e1] at T D RB U ⊢
        clear e1
        generalize rs ++ [z] = rs2 at T D RB U hl2 ⊢
        generalize w9.setCell ⟨X, 1, none⟩ (.slice (some ⟨g', 0, none⟩) rs2.length c') = w7 at T D RB U ⊢
        obtain ⟨gr, rfl⟩ : ∃ k, k = g' := ⟨_, rfl⟩
        obtain ⟨cr, rfl⟩ : ∃ k, k = c' := ⟨_, rfl⟩
        obtain ⟨hb0, hb1, hb2⟩ := T.out.box.cells
        obtain ⟨hm0, hm1, hm2⟩ := RB.out.cells
        have hg0 := RB.out.free 0
        have hg1 := RB.out.free 1
        have hg2 := RB.out.free 2
        have HLn := Lib.hid ((show 1 ≤ fs.length ∧ fs.length ≤ 3 ∧ rs2.length ≤ 10 by omega))
        obtain ⟨w5, ew5⟩ : ∃ x : World, x = w7 := ⟨_, rfl⟩
        subst ew5
        go_wp2_with fail
        have RBf := Lib.hid (((RB.out.set0 (v := .slice (some ⟨gf, 0, none⟩) fs.length cf)).set1 (v := .slice (some ⟨gr, 0, none⟩) rs2.length cr)).set2 (v := .int .i64 n))
        obtain ⟨hr0, hr1, hr2⟩ := RBf.out.cells
        have hu5 : Upd [B] w5 (((w5.setCell ⟨B, 0, none⟩ (.slice (some ⟨gf, 0, none⟩) fs.length cf)).setCell ⟨B, 1, none⟩ (.slice (some ⟨gr, 0, none⟩) rs2.length cr)).setCell ⟨B, 2, none⟩ (.int .i64 n)) :=
          ((((Upd.refl w5).mono (gs := []) (hs := [B]) (by simp)).setCell _ (.inl (by simp))).setCell _ (.inl (by simp))).setCell _ (.inl (by simp))
        have hne1 := own_ne T.out.f RB.out
        have hne2 := own_ne T.out.r RB.out
        refine bodyPost_ret (v := .agg #[.slice (some ⟨gf, 0, none⟩) fs.length cf, .slice (some ⟨gr, 0, none⟩) rs2.length cr, .int .i64 n]) ?_ rfl ?_
        · simp [results, Try.f41, asAddr, loadVar, loadCells, loadCellsFrom, Addr.add, hr0, hr1, hr2]
        · exact ⟨gf, cf, gr, cr, fs, rs2, n, rfl, by rw [hB]; exact (T.out.f).keptNe hu5 (fun k hk => by cases hk; simpa using hne1), by rw [hB]; exact (T.out.r).keptNe hu5 (fun k hk => by cases hk; simpa using hne2), T.out.ap, HLn.out, (D.out).kept hu5 (fun k hk => by rw [List.mem_singleton.1 hk]; have := HgB.out g (by simp); omega), (U.out).afterB hu5 (fun k hk => by rw [List.mem_singleton.1 hk]; omega)⟩
    · by_cases k2 : k = 2
      · subst k2
        go_wp2_with fail
        refine (l01Pick_c g a c bs _ _ [999, 1000, 2500, 2501] _ (D.out.kept0 ((Upd.refl _).alloc _)) (lit_ints _ [999, 1000, 2500, 2501]) (fun ad e => by cases e; exact D.out.lt) (by simp) (by simp)).mono ?_
        rintro e wn ⟨z, rfl, hz, hd, hu⟩
        replace T := Lib.hid ((T.out.kept0 ((Upd.refl _).alloc _)).kept hu (by rw [← hB]; exact HgB.out))
        replace RB := Lib.hid ((RB.out.kept ((Upd.refl _).alloc _) (by simp)).kept hu (fun hm => by have := HgB.out _ hm; omega))
        replace D := Lib.hid hd
        replace U := Lib.hid ((U.out.alloc _).then1 hu)
        clear hd hu
        have hc := T.out.box.cells.2.2
        have hf := T.out.box.free 2
        have hXB := T.out.low
        have V9 : Upd [X] wn (wn.setCell ⟨X, 2, none⟩ (.int .i64 z)) := ((Upd.refl wn).mono (by simp)).setCell _ (.inl (by simp))
        replace D := Lib.hid (D.out.kept V9 (fun k hk => by rw [List.mem_singleton.1 hk]; have := HgB.out g (by simp); omega))
        replace U := Lib.hid (U.out.afterB V9 (fun k hk => by rw [List.mem_singleton.1 hk]; omega))
        replace RB := Lib.hid (RB.out.kept V9 (by simp; omega))
        replace T := Lib.hid (T.out.setN z)
        clear V9 hXB
        go_upto_region 11 with fail
        clear hc hf
        generalize wn.setCell ⟨X, 2, none⟩ (.int .i64 z) = w7 at T D RB U ⊢
        obtain ⟨hb0, hb1, hb2⟩ := T.out.box.cells
        obtain ⟨hm0, hm1, hm2⟩ := RB.out.cells
        have hg0 := RB.out.free 0
        have hg1 := RB.out.free 1
        have hg2 := RB.out.free 2
        have HLn := Lib.hid ((show 1 ≤ fs.length ∧ fs.length ≤ 3 ∧ rs.length ≤ 10 by omega))
        obtain ⟨w5, ew5⟩ : ∃ x : World, x = w7 := ⟨_, rfl⟩
        subst ew5
        go_wp2_with fail
        have RBf := Lib.hid (((RB.out.set0 (v := .slice (some ⟨gf, 0, none⟩) fs.length cf)).set1 (v := .slice (some ⟨gr, 0, none⟩) rs.length cr)).set2 (v := .int .i64 z))
        obtain ⟨hr0, hr1, hr2⟩ := RBf.out.cells
        have hu5 : Upd [B] w5 (((w5.setCell ⟨B, 0, none⟩ (.slice (some ⟨gf, 0, none⟩) fs.length cf)).setCell ⟨B, 1, none⟩ (.slice (some ⟨gr, 0, none⟩) rs.length cr)).setCell ⟨B, 2, none⟩ (.int .i64 z)) :=
          ((((Upd.refl w5).mono (gs := []) (hs := [B]) (by simp)).setCell _ (.inl (by simp))).setCell _ (.inl (by simp))).setCell _ (.inl (by simp))
        have hne1 := own_ne T.out.f RB.out
        have hne2 := own_ne T.out.r RB.out
        refine bodyPost_ret (v := .agg #[.slice (some ⟨gf, 0, none⟩) fs.length cf, .slice (some ⟨gr, 0, none⟩) rs.length cr, .int .i64 z]) ?_ rfl ?_
        · simp [results, Try.f41, asAddr, loadVar, loadCells, loadCellsFrom, Addr.add, hr0, hr1, hr2]
        · exact ⟨gf, cf, gr, cr, fs, rs, z, rfl, by rw [hB]; exact (T.out.f).keptNe hu5 (fun k hk => by cases hk; simpa using hne1), by rw [hB]; exact (T.out.r).keptNe hu5 (fun k hk => by cases hk; simpa using hne2), T.out.ap, HLn.out, (D.out).kept hu5 (fun k hk => by rw [List.mem_singleton.1 hk]; have := HgB.out g (by simp); omega), (U.out).afterB hu5 (fun k hk => by rw [List.mem_singleton.1 hk]; omega)⟩
      · by_cases k3 : k = 3
        · subst k3
          have hlit : OwnI (wn.alloc (.cells #[] 2)) B (.slice (some ⟨wn.heap.size, 0, none⟩) 0 0) [] := lit_own (by have := RB.out.lt; omega) [] (by simp)
          have uL : Upd [] wn (wn.alloc (.cells #[] 2)) := (Upd.refl wn).alloc _
          have hgn : gf ≠ wn.heap.size := by have := (own_lt T.out.f).2; omega
          have T7 := T.out.kept0 uL
          have hc := T7.box.cells.2.1
          have hf := T7.box.free 1
          have hXB := T.out.low
          obtain ⟨k9, hk9⟩ : ∃ k, wn.heap.size = k := ⟨_, rfl⟩
          rw [hk9] at hlit hgn
          have V9 : Upd [X] (wn.alloc (.cells #[] 2)) ((wn.alloc (.cells #[] 2)).setCell ⟨X, 1, none⟩ (.slice (some ⟨k9, 0, none⟩) 0 0)) := ((Upd.refl _).mono (by simp)).setCell _ (.inl (by simp))
          replace D := Lib.hid ((D.out.kept0 uL).kept V9 (fun k hk => by rw [List.mem_singleton.1 hk]; have := HgB.out g (by simp); omega))
          replace U := Lib.hid ((U.out.then0 uL).afterB V9 (fun k hk => by rw [List.mem_singleton.1 hk]; omega))
          replace RB := Lib.hid ((RB.out.kept uL (by simp)).kept V9 (by simp; omega))
          replace T := Lib.hid (T7.setR hlit hgn)
          clear V9 hXB uL hgn hlit T7
          go_upto_region 11 with fail
          clear hc hf
          try rw [hk9]
          clear hk9
          generalize (wn.alloc (.cells #[] 2)).setCell ⟨X, 1, none⟩ (.slice (some ⟨k9, 0, none⟩) 0 0) = w7 at T D RB U ⊢
          obtain ⟨gr, rfl⟩ : ∃ k, k = k9 := ⟨_, rfl⟩
          obtain ⟨rs2, hr2⟩ : ∃ l : List Int, l = [] := ⟨_, rfl⟩
          obtain ⟨cr, hcr⟩ : ∃ k : Nat, k = 0 := ⟨_, rfl⟩
          have T8 : Hid (TB w7 B X gf cf gr cr fs rs2 n) := by rw [hr2, hcr]; exact T.out
          have hl2 : rs2.length ≤ 10 := by rw [hr2]; simp
          clear T hr2 hcr
          have T := T8
          clear T8
          obtain ⟨hb0, hb1, hb2⟩ := T.out.box.cells
          obtain ⟨hm0, hm1, hm2⟩ := RB.out.cells
          have hg0 := RB.out.free 0
          have hg1 := RB.out.free 1
          have hg2 := RB.out.free 2
          have HLn := Lib.hid ((show 1 ≤ fs.length ∧ fs.length ≤ 3 ∧ rs2.length ≤ 10 by omega))
          obtain ⟨w5, ew5⟩ : ∃ x : World, x = w7 := ⟨_, rfl⟩
          subst ew5
          go_wp2_with fail
          have RBf := Lib.hid (((RB.out.set0 (v := .slice (some ⟨gf, 0, none⟩) fs.length cf)).set1 (v := .slice (some ⟨gr, 0, none⟩) rs2.length cr)).set2 (v := .int .i64 n))
          obtain ⟨hr0, hr1, hr2⟩ := RBf.out.cells
          have hu5 : Upd [B] w5 (((w5.setCell ⟨B, 0, none⟩ (.slice (some ⟨gf, 0, none⟩) fs.length cf)).setCell ⟨B, 1, none⟩ (.slice (some ⟨gr, 0, none⟩) rs2.length cr)).setCell ⟨B, 2, none⟩ (.int .i64 n)) :=
            ((((Upd.refl w5).mono (gs := []) (hs := [B]) (by simp)).setCell _ (.inl (by simp))).setCell _ (.inl (by simp))).setCell _ (.inl (by simp))
          have hne1 := own_ne T.out.f RB.out
          have hne2 := own_ne T.out.r RB.out
          refine bodyPost_ret (v := .agg #[.slice (some ⟨gf, 0, none⟩) fs.length cf, .slice (some ⟨gr, 0, none⟩) rs2.length cr, .int .i64 n]) ?_ rfl ?_
          · simp [results, Try.f41, asAddr, loadVar, loadCells, loadCellsFrom, Addr.add, hr0, hr1, hr2]
          · exact ⟨gf, cf, gr, cr, fs, rs2, n, rfl, by rw [hB]; exact (T.out.f).keptNe hu5 (fun k hk => by cases hk; simpa using hne1), by rw [hB]; exact (T.out.r).keptNe hu5 (fun k hk => by cases hk; simpa using hne2), T.out.ap, HLn.out, (D.out).kept hu5 (fun k hk => by rw [List.mem_singleton.1 hk]; have := HgB.out g (by simp); omega), (U.out).afterB hu5 (fun k hk => by rw [List.mem_singleton.1 hk]; omega)⟩
        · skip
          obtain ⟨hb0, hb1, hb2⟩ := T.out.box.cells
          obtain ⟨hm0, hm1, hm2⟩ := RB.out.cells
          have hg0 := RB.out.free 0
          have hg1 := RB.out.free 1
          have hg2 := RB.out.free 2
          have HLn := Lib.hid ((show 1 ≤ fs.length ∧ fs.length ≤ 3 ∧ rs.length ≤ 10 by omega))
          obtain ⟨w5, ew5⟩ : ∃ x : World, x = wn := ⟨_, rfl⟩
          subst ew5
          go_wp2_with fail
          have RBf := Lib.hid (((RB.out.set0 (v := .slice (some ⟨gf, 0, none⟩) fs.length cf)).set1 (v := .slice (some ⟨gr, 0, none⟩) rs.length cr)).set2 (v := .int .i64 n))
          obtain ⟨hr0, hr1, hr2⟩ := RBf.out.cells
          have hu5 : Upd [B] w5 (((w5.setCell ⟨B, 0, none⟩ (.slice (some ⟨gf, 0, none⟩) fs.length cf)).setCell ⟨B, 1, none⟩ (.slice (some ⟨gr, 0, none⟩) rs.length cr)).setCell ⟨B, 2, none⟩ (.int .i64 n)) :=
            ((((Upd.refl w5).mono (gs := []) (hs := [B]) (by simp)).setCell _ (.inl (by simp))).setCell _ (.inl (by simp))).setCell _ (.inl (by simp))
          have hne1 := own_ne T.out.f RB.out
          have hne2 := own_ne T.out.r RB.out
          refine bodyPost_ret (v := .agg #[.slice (some ⟨gf, 0, none⟩) fs.length cf, .slice (some ⟨gr, 0, none⟩) rs.length cr, .int .i64 n]) ?_ rfl ?_
          · simp [results, Try.f41, asAddr, loadVar, loadCells, loadCellsFrom, Addr.add, hr0, hr1, hr2]
          · exact ⟨gf, cf, gr, cr, fs, rs, n, rfl, by rw [hB]; exact (T.out.f).keptNe hu5 (fun k hk => by cases hk; simpa using hne1), by rw [hB]; exact (T.out.r).keptNe hu5 (fun k hk => by cases hk; simpa using hne2), T.out.ap, HLn.out, (D.out).kept hu5 (fun k hk => by rw [List.mem_singleton.1 hk]; have := HgB.out g (by simp); omega), (U.out).afterB hu5 (fun k hk => by rw [List.mem_singleton.1 hk]; omega)⟩
end Go.Proofs.Ytjnkckpebfafjaa
