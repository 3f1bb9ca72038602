/- The draws of chapter 9: a train in the making. -/
import Derived.Test.YtjnkckpebfafjaaAppF
import Derived.Deep.RegionWith
import Derived.Deep.RegionHeld3
import Derived.Deep.RegionLaw
import Derived.Deep.CutBlock
namespace Go.Proofs.Ytjnkckpebfafjaa
open Go.RowKit
set_option linter.unusedVariables false
set_option linter.unusedSimpArgs false

/-- A train in block X, its slices the call's own from block B on. -/
structure TB (w : World) (B X gf cf gr cr : Nat) (fs rs : List Int) (n : Int) : Prop where
  box : Box w X (.slice (some ⟨gf, 0, none⟩) fs.length cf) (.slice (some ⟨gr, 0, none⟩) rs.length cr) (.int .i64 n) 26
  f : OwnI w B (.slice (some ⟨gf, 0, none⟩) fs.length cf) fs
  r : OwnI w B (.slice (some ⟨gr, 0, none⟩) rs.length cr) rs
  ap : gf ≠ gr
  low : B ≤ X
theorem own_ne {w : World} {B g n c X : Nat} {xs : List Int} {c0 c1 c2 : Value} (h : OwnI w B (.slice (some ⟨g, 0, none⟩) n c) xs) (hb : Box w X c0 c1 c2 26) : g ≠ X := by
  rcases h.2 with ⟨e, _⟩ | ⟨g', cap, cur, e, hbb, hg, rest⟩
  · simp at e
  · cases e
    intro e; subst e
    unfold Box at hb
    rw [hb] at hg
    simp at hg
theorem own_lt {w : World} {B g n c : Nat} {xs : List Int} (h : OwnI w B (.slice (some ⟨g, 0, none⟩) n c) xs) : B ≤ g ∧ g < w.heap.size := (World.ownsRow.lt (w := w) h) g rfl
theorem TB.kept {gs : List Nat} {w w' : World} {B X gf cf gr cr : Nat} {fs rs : List Int} {n : Int} (h : TB w B X gf cf gr cr fs rs n) (u : Upd gs w w') (hd : ∀ k, k ∈ gs → k < B) : TB w' B X gf cf gr cr fs rs n :=
  ⟨h.box.kept u fun hm => by have := hd _ hm; have := h.low; omega, h.f.kept u hd, h.r.kept u hd, h.ap, h.low⟩
theorem TB.kept0 {w w' : World} {B X gf cf gr cr : Nat} {fs rs : List Int} {n : Int} (h : TB w B X gf cf gr cr fs rs n) (u : Upd [] w w') : TB w' B X gf cf gr cr fs rs n := h.kept u (by simp)
theorem TB.snocF {w w' : World} {B X gf cf gr cr g' c' : Nat} {fs rs : List Int} {n y : Int} (h : TB w B X gf cf gr cr fs rs n) (o : OwnI w' B (.slice (some ⟨g', 0, none⟩) (fs.length + 1) c') (fs ++ [y])) (u : Upd [gf] w w') (hg : g' = gf ∨ w.heap.size ≤ g') :
    TB (w'.setCell ⟨X, 0, none⟩ (.slice (some ⟨g', 0, none⟩) (fs.length + 1) c')) B X g' c' gr cr (fs ++ [y]) rs n := by
  have e : (fs ++ [y]).length = fs.length + 1 := by simp
  have h1 := own_ne h.f h.box
  have h2 := own_ne h.r h.box
  have hX := h.box.lt
  have hr := own_lt h.r
  have hb := h.box.kept u (by simp; omega)
  have hgX : g' ≠ X := by rcases hg with rfl | hg <;> omega
  have hgr : g' ≠ gr := by rcases hg with rfl | hg; exact h.ap; omega
  have v : Upd [X] w' (w'.setCell ⟨X, 0, none⟩ (.slice (some ⟨g', 0, none⟩) (fs.length + 1) c')) := ((Upd.refl w').mono (by simp)).setCell _ (.inl (by simp))
  refine ⟨by rw [e]; exact hb.set0, ?_, ?_, hgr, h.low⟩
  · rw [e]; exact o.keptNe v (fun k hk => by cases hk; simpa using hgX)
  · exact (h.r.keptNe u (fun k hk => by cases hk; have := h.ap; simp; omega)).keptNe v (fun k hk => by cases hk; simpa using h2)
theorem TB.snocR {w w' : World} {B X gf cf gr cr g' c' : Nat} {fs rs : List Int} {n y : Int} (h : TB w B X gf cf gr cr fs rs n) (o : OwnI w' B (.slice (some ⟨g', 0, none⟩) (rs.length + 1) c') (rs ++ [y])) (u : Upd [gr] w w') (hg : g' = gr ∨ w.heap.size ≤ g') :
    TB (w'.setCell ⟨X, 1, none⟩ (.slice (some ⟨g', 0, none⟩) (rs.length + 1) c')) B X gf cf g' c' fs (rs ++ [y]) n := by
  have e : (rs ++ [y]).length = rs.length + 1 := by simp
  have h1 := own_ne h.f h.box
  have h2 := own_ne h.r h.box
  have hX := h.box.lt
  have hr := own_lt h.f
  have hb := h.box.kept u (by simp; omega)
  have hgX : g' ≠ X := by rcases hg with rfl | hg <;> omega
  have hgr : gf ≠ g' := by rcases hg with rfl | hg; exact h.ap; omega
  have v : Upd [X] w' (w'.setCell ⟨X, 1, none⟩ (.slice (some ⟨g', 0, none⟩) (rs.length + 1) c')) := ((Upd.refl w').mono (by simp)).setCell _ (.inl (by simp))
  refine ⟨by rw [e]; exact hb.set1, ?_, ?_, hgr, h.low⟩
  · exact (h.f.keptNe u (fun k hk => by cases hk; have := h.ap; simp; omega)).keptNe v (fun k hk => by cases hk; simpa using h1)
  · rw [e]; exact o.keptNe v (fun k hk => by cases hk; simpa using hgX)
/-- A train has been drawn. -/
def DrawT (w : World) (g : Nat) (a : Option Addr) (c : Nat) (bs : List Int) (e : Ending) (w' : World) : Prop :=
  ∃ gf cf gr cr fs rs n, e = .returned (.agg #[.slice (some ⟨gf, 0, none⟩) fs.length cf, .slice (some ⟨gr, 0, none⟩) rs.length cr, .int .i64 n]) ∧ OwnI w' w.heap.size (.slice (some ⟨gf, 0, none⟩) fs.length cf) fs ∧ OwnI w' w.heap.size (.slice (some ⟨gr, 0, none⟩) rs.length cr) rs ∧ gf ≠ gr ∧
    (1 ≤ fs.length ∧ fs.length ≤ 3 ∧ rs.length ≤ 9) ∧ DC w' g a c bs ∧ Upd [g] w w'
set_option maxRecDepth 20000 in
set_option maxHeartbeats 6400000 in
theorem l09Good_c (g : Nat) (a : Option Addr) (c : Nat) (bs : List Int) (w : World) (h : DC w g a c bs) : Calls Try.prog 54 #[.pointer (some ⟨g, 0, none⟩)] w (DrawT w g a c bs) := by
  have HgB : Hid (∀ k, k ∈ [g] → k < w.heap.size) := fun k hk => by rw [List.mem_singleton.1 hk]; exact h.lt
  obtain ⟨B, hB⟩ : ∃ B, w.heap.size = B := ⟨_, rfl⟩
  have s1 : (w.alloc (.cells #[.slice none 0 0, .slice none 0 0, .int .i64 0] 26)).heap.size = B + 1 := by simp [hB]
  have s2 : ((w.alloc (.cells #[.slice none 0 0, .slice none 0 0, .int .i64 0] 26)).alloc (.cells #[] 2)).heap.size = B + 2 := by simp [hB]
  have u1 : Upd [] w (w.alloc (.cells #[.slice none 0 0, .slice none 0 0, .int .i64 0] 26)) := (Upd.refl w).alloc _
  have u2 : Upd [] (w.alloc (.cells #[.slice none 0 0, .slice none 0 0, .int .i64 0] 26)) ((w.alloc (.cells #[.slice none 0 0, .slice none 0 0, .int .i64 0] 26)).alloc (.cells #[] 2)) := (Upd.refl _).alloc _
  have u3 : Upd [] ((w.alloc (.cells #[.slice none 0 0, .slice none 0 0, .int .i64 0] 26)).alloc (.cells #[] 2)) (((w.alloc (.cells #[.slice none 0 0, .slice none 0 0, .int .i64 0] 26)).alloc (.cells #[] 2)).alloc (.cells #[] 2)) := (Upd.refl _).alloc _
  have RB : Hid (Box (((w.alloc (.cells #[.slice none 0 0, .slice none 0 0, .int .i64 0] 26)).alloc (.cells #[] 2)).alloc (.cells #[] 2)) B (.slice none 0 0) (.slice none 0 0) (.int .i64 0) 26) := by
    have := Box.new w (.slice none 0 0) (.slice none 0 0) (.int .i64 0) 26
    rw [hB] at this
    exact ((this.kept u2 (by simp)).kept u3 (by simp))
  have OF : Hid (OwnI (((w.alloc (.cells #[.slice none 0 0, .slice none 0 0, .int .i64 0] 26)).alloc (.cells #[] 2)).alloc (.cells #[] 2)) B (.slice (some ⟨B + 1, 0, none⟩) 0 0) []) := by
    have := lit_own (w := w.alloc (.cells #[.slice none 0 0, .slice none 0 0, .int .i64 0] 26)) (B := B) (by omega) [] (by simp)
    rw [s1] at this
    exact OwnI.kept0 this u3
  have OR : Hid (OwnI (((w.alloc (.cells #[.slice none 0 0, .slice none 0 0, .int .i64 0] 26)).alloc (.cells #[] 2)).alloc (.cells #[] 2)) B (.slice (some ⟨B + 2, 0, none⟩) 0 0) []) := by
    have := lit_own (w := (w.alloc (.cells #[.slice none 0 0, .slice none 0 0, .int .i64 0] 26)).alloc (.cells #[] 2)) (B := B) (by omega) [] (by simp)
    rw [s2] at this
    exact this
  have D := Lib.hid (h.kept0 ((u1.then0 u2).then0 u3))
  have U : Hid (Upd [g] w (((w.alloc (.cells #[.slice none 0 0, .slice none 0 0, .int .i64 0] 26)).alloc (.cells #[] 2)).alloc (.cells #[] 2))) := ((u1.then0 u2).then0 u3).mono (by simp)
  clear h u1 u2 u3
  go_enter Try.func54, Try.ntmps54
  go_wp2_with fail
  refine (l01Next_c g a c bs _ _ D.out).mono ?_
  rintro e wn ⟨x, rfl, hx, hd, hu⟩
  replace D := Lib.hid hd
  replace OF := Lib.hid (OF.out.kept hu (by rw [← hB]; exact HgB.out))
  replace OR := Lib.hid (OR.out.kept hu (by rw [← hB]; exact HgB.out))
  replace RB := Lib.hid (RB.out.kept hu (fun hm => by have := HgB.out _ hm; omega))
  replace U := Lib.hid (U.out.then1 hu)
  clear hd hu s1 s2
  go_wp2_with fail
  obtain ⟨X, hXe⟩ : ∃ X, wn.heap.size = X := ⟨_, rfl⟩
  have hBX : B < X := by have := RB.out.lt; omega
  obtain ⟨n, hn⟩ : ∃ n : Int, 1900 + x = n := ⟨_, rfl⟩
  rw [hn]
  have uX : Upd [] wn (wn.alloc (.cells #[.slice (some ⟨B + 1, 0, none⟩) 0 0, .slice (some ⟨B + 2, 0, none⟩) 0 0, .int .i64 n] 26)) := (Upd.refl wn).alloc _
  have bX := Box.new wn (.slice (some ⟨B + 1, 0, none⟩) 0 0) (.slice (some ⟨B + 2, 0, none⟩) 0 0) (.int .i64 n) 26
  rw [hXe] at bX
  have T : Hid (∃ gf cf gr cr fs, TB (wn.alloc (.cells #[.slice (some ⟨B + 1, 0, none⟩) 0 0, .slice (some ⟨B + 2, 0, none⟩) 0 0, .int .i64 n] 26)) B X gf cf gr cr fs [] n ∧ fs.length = 0) :=
    ⟨B + 1, 0, B + 2, 0, [], ⟨bX, OF.out.kept0 uX, OR.out.kept0 uX, by omega, by omega⟩, rfl⟩
  replace D := Lib.hid (D.out.kept0 uX)
  replace RB := Lib.hid (RB.out.kept uX (by simp))
  replace U := Lib.hid (U.out.then0 uX)
  clear OF OR uX bX hn hx
  try rw [hXe]
  generalize wn.alloc (.cells #[.slice (some ⟨B + 1, 0, none⟩) 0 0, .slice (some ⟨B + 2, 0, none⟩) 0 0, .int .i64 n] 26) = w2 at T D RB U ⊢
  clear hXe
  refine (l01Next_c g a c bs _ _ D.out).mono ?_
  rintro e wm ⟨x2, rfl, hx2, hd, hu⟩
  obtain ⟨gf, cf, gr, cr, fs, t1, t2⟩ := T.out
  replace T := Lib.hid (show TB wm B X gf cf gr cr fs [] n ∧ fs.length = 0 from ⟨t1.kept hu (by rw [← hB]; exact HgB.out), t2⟩)
  replace D := Lib.hid hd
  replace RB := Lib.hid (RB.out.kept hu (fun hm => by have := HgB.out _ hm; omega))
  replace U := Lib.hid (U.out.then1 hu)
  clear hd hu t1 t2
  go_wp2_with fail
  refine (l01Next_c g a c bs _ _ D.out).mono ?_
  rintro e wk ⟨y, rfl, hy, hd, hu⟩
  replace T := Lib.hid (show TB wk B X gf cf gr cr fs [] n ∧ fs.length = 0 from ⟨T.out.1.kept hu (by rw [← hB]; exact HgB.out), T.out.2⟩)
  replace D := Lib.hid hd
  replace RB := Lib.hid (RB.out.kept hu (fun hm => by have := HgB.out _ hm; omega))
  replace U := Lib.hid (U.out.then1 hu)
  clear hd hu
  obtain ⟨N, hN⟩ : ∃ N : Nat, 1 + y = N := ⟨(1 + y).toNat, by omega⟩
  have hNb : 1 ≤ N ∧ N ≤ 3 := by omega
  have hw1 : IntKind.i64.wrap (1 + y) = (N : Int) := by rw [hN]; exact IntWalk.i64_in _ (by omega)
  have hyN : y = (N : Int) - 1 := by omega
  subst hyN
  clear hN hy
  have T2 : Hid (∃ gf cf gr cr fs, TB wk B X gf cf gr cr fs [] n ∧ fs.length + N = N) := ⟨gf, cf, gr, cr, fs, T.out.1, by have := T.out.2; omega⟩
  clear T
  go_wp2_with fail
  go_loopw [4, 5] (fun t i wr => ∃ (t0 : Int) (m : Nat), m ≤ N ∧ t = .int .i64 t0 ∧ i = .int .i64 m ∧ Hid (∃ gf cf gr cr fs, TB wr B X gf cf gr cr fs [] n ∧ fs.length + m = N) ∧ Hid (Box wr B (.slice none 0 0) (.slice none 0 0) (.int .i64 0) 26) ∧ Hid (DC wr g a c bs) ∧ Hid (Upd [g] w wr)) (fun _ i _ => (intOf i).toNat)
  case atStart => exact ⟨_, N, Nat.le_refl _, rfl, by simp, T2, RB, D, U⟩
  case round =>
    clear T2 RB D U hw1
    obtain ⟨t0, m, hm, rfl, rfl, T2, RB, D, U⟩ := hrel
    obtain ⟨gf, cf, gr, cr, fs, t1, t2⟩ := T2.out
    have T := Lib.hid t1
    have HL := Lib.hid t2
    obtain ⟨w5, ew5⟩ : ∃ x : World, x = wr := ⟨_, rfl⟩
    subst ew5
    clear t1 t2 T2
    by_cases hm0 : 0 < m
    · have hc0 := T.out.box.cells.1
      have hfl : fs.length ≤ 3 := by have := HL.out; omega
      go_wp2_with (at_builtin; refine wpList_appF rfl _ _ rfl fs t0 rfl rfl T.out.f (by have := T.out.box.lt; have := T.out.low; omega) (by omega) ?_; intro g' c' w9 z1 z2 z3; have hc9 := (T.out.box.kept z2 (by have := own_ne T.out.f T.out.box; simp; omega)).cells.1; have hf9 := (T.out.box.kept z2 (by have := own_ne T.out.f T.out.box; simp; omega)).free 0; have T9 := Lib.hid (T.out.snocF z1 z2 z3); have V9 := Lib.hid ((z2.mono (hs := [gf, X]) (by simp)).setCell (p := ⟨X, 0, none⟩) (.slice (some ⟨g', 0, none⟩) (fs.length + 1) c') (.inl (by simp))); clear z1 z2 z3)
      clear hc0 hc9 hf9
      have hXB := T.out.low
      have hgfB := (own_lt T.out.f).1
      have hXg : ∀ k, k ∈ [gf, X] → B ≤ k := by simp; omega
      have hBne : B ∉ [gf, X] := by have h1 := own_ne T.out.f RB.out; simp; omega
      replace D := Lib.hid (D.out.kept V9.out (fun k hk => by have := hXg k hk; have := HgB.out g (by simp); omega))
      replace RB := Lib.hid (RB.out.kept V9.out hBne)
      replace U := Lib.hid (U.out.afterB V9.out (fun k hk => by have := hXg k hk; omega))
      clear V9 hXg hBne hgfB T hXB
      have T := T9
      clear T9
      generalize w9.setCell ⟨X, 0, none⟩ (.slice (some ⟨g', 0, none⟩) (fs.length + 1) c') = w10 at T D RB U ⊢
      refine (l01Next_c g a c bs _ _ D.out).mono ?_
      rintro e wn ⟨x3, rfl, hx3, hd, hu⟩
      replace T := Lib.hid (T.out.kept hu (by rw [← hB]; exact HgB.out))
      replace RB := Lib.hid (RB.out.kept hu (fun hm => by have := HgB.out _ hm; omega))
      replace D := Lib.hid hd
      replace U := Lib.hid (U.out.then1 hu)
      clear hd hu
      have hw2 : IntKind.i64.wrap (1 + x3) = 1 + x3 := IntWalk.i64_in _ (by omega)
      go_wp2_with fail
      refine (l01Pick_c g a c bs _ _ [8, 12, 1 + x3] _ (D.out.kept0 ((Upd.refl _).alloc _)) (lit_ints _ [8, 12, 1 + x3]) (fun ad e => by cases e; exact D.out.lt) (by simp) (by simp)).mono ?_
      rintro e wn ⟨x4, rfl, hx4, hd, hu⟩
      replace T := Lib.hid ((T.out.kept0 ((Upd.refl _).alloc _)).kept hu (by rw [← hB]; exact HgB.out))
      replace RB := Lib.hid ((RB.out.kept ((Upd.refl _).alloc _) (by simp)).kept hu (fun hm => by have := HgB.out _ hm; omega))
      replace D := Lib.hid hd
      replace U := Lib.hid ((U.out.alloc _).then1 hu)
      clear hd hu
      go_wp2_with fail
      have T2 : Hid (∃ gf cf gr cr fs, TB wn B X gf cf gr cr fs [] n ∧ fs.length + (m - 1) = N) := ⟨_, _, _, _, _, T.out, by have := HL.out; simp; omega⟩
      go_roundw
      case rel => exact ⟨_, m - 1, by omega, rfl, by go_num, T2, RB, D, U⟩
      case measure => simp [intOf]; omega
    · obtain rfl : m = 0 := by omega
      have hfl : fs.length = N := by have := HL.out; omega
      have hfb : 1 ≤ fs.length ∧ fs.length ≤ 3 := by omega
      clear HL hfl
      go_wp2_with fail
      refine (l01Next_c g a c bs _ _ D.out).mono ?_
      rintro e wn ⟨x3, rfl, hx3, hd, hu⟩
      replace T := Lib.hid (T.out.kept hu (by rw [← hB]; exact HgB.out))
      replace RB := Lib.hid (RB.out.kept hu (fun hm => by have := HgB.out _ hm; omega))
      replace D := Lib.hid hd
      replace U := Lib.hid (U.out.then1 hu)
      clear hd hu
      go_wp2_with fail
      refine (l01Next_c g a c bs _ _ D.out).mono ?_
      rintro e wn ⟨y, rfl, hy, hd, hu⟩
      replace T := Lib.hid (T.out.kept hu (by rw [← hB]; exact HgB.out))
      replace RB := Lib.hid (RB.out.kept hu (fun hm => by have := HgB.out _ hm; omega))
      replace D := Lib.hid hd
      replace U := Lib.hid (U.out.then1 hu)
      clear hd hu
      obtain ⟨M, hM⟩ : ∃ N : Nat, 2 + y = N := ⟨(2 + y).toNat, by omega⟩
      have hMb : 2 ≤ M ∧ M ≤ 8 := by omega
      have hw1 : IntKind.i64.wrap (2 + y) = (M : Int) := by rw [hM]; exact IntWalk.i64_in _ (by omega)
      have hyM : y = (M : Int) - 2 := by omega
      subst hyM
      clear hM hy
      have T2 : Hid (∃ gf cf gr cr rs, TB wn B X gf cf gr cr fs rs n ∧ rs.length + M = M) := ⟨gf, cf, gr, cr, [], T.out, by simp⟩
      clear T
      obtain ⟨w11, ew11⟩ : ∃ x : World, x = wn := ⟨_, rfl⟩
      subst ew11
      go_wp2_with fail
      go_loopw [4, 6] (fun t i wr => ∃ (t0 : Int) (m : Nat), m ≤ M ∧ t = .int .i64 t0 ∧ i = .int .i64 m ∧ Hid (∃ gf cf gr cr rs, TB wr B X gf cf gr cr fs rs n ∧ rs.length + m = M) ∧ Hid (Box wr B (.slice none 0 0) (.slice none 0 0) (.int .i64 0) 26) ∧ Hid (DC wr g a c bs) ∧ Hid (Upd [g] w wr)) (fun _ i _ => (intOf i).toNat)
      case atStart => exact ⟨_, M, Nat.le_refl _, rfl, by simp, T2, RB, D, U⟩
      case round =>
        clear T2 RB D U hw1
        obtain ⟨t0, m, hm, rfl, rfl, T2, RB, D, U⟩ := hrel
        obtain ⟨gf, cf, gr, cr, rs, t1, t2⟩ := T2.out
        have T := Lib.hid t1
        have HL := Lib.hid t2
        obtain ⟨w5, ew5⟩ : ∃ x : World, x = wr := ⟨_, rfl⟩
        subst ew5
        clear t1 t2 T2
        by_cases hm0 : 0 < m
        · have hc0 := T.out.box.cells.2.1
          have hfl : rs.length ≤ 8 := by have := HL.out; omega
          go_wp2_with (at_builtin; refine wpList_appF rfl _ _ rfl rs t0 rfl rfl T.out.r (by have := T.out.box.lt; have := T.out.low; omega) (by omega) ?_; intro g' c' w9 z1 z2 z3; have hc9 := (T.out.box.kept z2 (by have := own_ne T.out.r T.out.box; simp; omega)).cells.2.1; have hf9 := (T.out.box.kept z2 (by have := own_ne T.out.r T.out.box; simp; omega)).free 1; have T9 := Lib.hid (T.out.snocR z1 z2 z3); have V9 := Lib.hid ((z2.mono (hs := [gr, X]) (by simp)).setCell (p := ⟨X, 1, none⟩) (.slice (some ⟨g', 0, none⟩) (rs.length + 1) c') (.inl (by simp))); clear z1 z2 z3)
          clear hc0 hc9 hf9
          have hXB := T.out.low
          have hgfB := (own_lt T.out.r).1
          have hXg : ∀ k, k ∈ [gr, X] → B ≤ k := by simp; omega
          have hBne : B ∉ [gr, X] := by have h1 := own_ne T.out.r RB.out; simp; omega
          replace D := Lib.hid (D.out.kept V9.out (fun k hk => by have := hXg k hk; have := HgB.out g (by simp); omega))
          replace RB := Lib.hid (RB.out.kept V9.out hBne)
          replace U := Lib.hid (U.out.afterB V9.out (fun k hk => by have := hXg k hk; omega))
          clear V9 hXg hBne hgfB T hXB
          have T := T9
          clear T9
          obtain ⟨w10, ew10⟩ : ∃ W, W = w9.setCell ⟨X, 1, none⟩ (.slice (some ⟨g', 0, none⟩) (rs.length + 1) c') := ⟨_, rfl⟩
          have hsz : w9.heap.size = w10.heap.size := by rw [ew10]; simp
          rw [← ew10] at T D RB U ⊢
          rw [hsz]
          clear hsz ew10
          refine (l01Pick_c g a c bs _ _ [1, 2, 3, 4] _ (D.out.kept0 ((Upd.refl _).alloc _)) (lit_ints _ [1, 2, 3, 4]) (fun ad e => by cases e; exact D.out.lt) (by simp) (by simp)).mono ?_
          rintro e wn ⟨x4, rfl, hx4, hd, hu⟩
          replace T := Lib.hid ((T.out.kept0 ((Upd.refl _).alloc _)).kept hu (by rw [← hB]; exact HgB.out))
          replace RB := Lib.hid ((RB.out.kept ((Upd.refl _).alloc _) (by simp)).kept hu (fun hm => by have := HgB.out _ hm; omega))
          replace D := Lib.hid hd
          replace U := Lib.hid ((U.out.alloc _).then1 hu)
          clear hd hu
          go_wp2_with fail
          have T2 : Hid (∃ gf cf gr cr rs, TB wn B X gf cf gr cr fs rs n ∧ rs.length + (m - 1) = M) := ⟨_, _, _, _, _, T.out, by have := HL.out; simp; omega⟩
          go_roundw
          case rel => exact ⟨_, m - 1, by omega, rfl, by go_num, T2, RB, D, U⟩
          case measure => simp [intOf]; omega
        · have hrl : rs.length ≤ 8 := by have := HL.out; omega
          clear HL
          obtain ⟨hb0, hb1, hb2⟩ := T.out.box.cells
          obtain ⟨hm0, hm1, hm2⟩ := RB.out.cells
          have hg0 := RB.out.free 0
          have hg1 := RB.out.free 1
          have hg2 := RB.out.free 2
          go_wp2_with fail
          have RBf := Lib.hid (((RB.out.set0 (v := .slice (some ⟨gf, 0, none⟩) fs.length cf)).set1 (v := .slice (some ⟨gr, 0, none⟩) rs.length cr)).set2 (v := .int .i64 n))
          obtain ⟨hr0, hr1, hr2⟩ := RBf.out.cells
          have hu5 : Upd [B] w5 (((w5.setCell ⟨B, 0, none⟩ (.slice (some ⟨gf, 0, none⟩) fs.length cf)).setCell ⟨B, 1, none⟩ (.slice (some ⟨gr, 0, none⟩) rs.length cr)).setCell ⟨B, 2, none⟩ (.int .i64 n)) :=
            ((((Upd.refl w5).mono (gs := []) (hs := [B]) (by simp)).setCell _ (.inl (by simp))).setCell _ (.inl (by simp))).setCell _ (.inl (by simp))
          have hne1 := own_ne T.out.f RB.out
          have hne2 := own_ne T.out.r RB.out
          refine bodyPost_ret (v := .agg #[.slice (some ⟨gf, 0, none⟩) fs.length cf, .slice (some ⟨gr, 0, none⟩) rs.length cr, .int .i64 n]) ?_ rfl ?_
          · simp [results, Try.f54, asAddr, loadVar, loadCells, loadCellsFrom, Addr.add, hr0, hr1, hr2]
          · exact ⟨gf, cf, gr, cr, fs, rs, n, rfl, by rw [hB]; exact (T.out.f).keptNe hu5 (fun k hk => by cases hk; simpa using hne1), by rw [hB]; exact (T.out.r).keptNe hu5 (fun k hk => by cases hk; simpa using hne2), T.out.ap, by omega, (D.out).kept hu5 (fun k hk => by rw [List.mem_singleton.1 hk]; have := HgB.out g (by simp); omega), (U.out).afterB hu5 (fun k hk => by rw [List.mem_singleton.1 hk]; omega)⟩
end Go.Proofs.Ytjnkckpebfafjaa
