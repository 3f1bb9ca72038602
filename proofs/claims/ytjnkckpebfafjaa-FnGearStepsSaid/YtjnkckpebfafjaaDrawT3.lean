/- The draws of chapter 9: a train and a gear. -/
import Derived.Test.YtjnkckpebfafjaaDrawT2
namespace Go.Proofs.Ytjnkckpebfafjaa
open Go.RowKit
set_option linter.unusedVariables false
set_option linter.unusedSimpArgs false

def DrawTS (w : World) (g : Nat) (a : Option Addr) (c : Nat) (bs : List Int) (e : Ending) (w' : World) : Prop :=
  ∃ gf cf gr cr fs rs n f r, e = .returned (.tuple #[.agg #[.slice (some ⟨gf, 0, none⟩) fs.length cf, .slice (some ⟨gr, 0, none⟩) rs.length cr, .int .i64 n], .int .i64 f, .int .i64 r]) ∧ OwnI w' w.heap.size (.slice (some ⟨gf, 0, none⟩) fs.length cf) fs ∧ OwnI w' w.heap.size (.slice (some ⟨gr, 0, none⟩) rs.length cr) rs ∧ gf ≠ gr ∧
    (1 ≤ fs.length ∧ fs.length ≤ 3 ∧ rs.length ≤ 10) ∧ DC w' g a c bs ∧ Upd [g] w w'
set_option maxRecDepth 20000 in
set_option maxHeartbeats 6400000 in
theorem l09Some_c (g : Nat) (a : Option Addr) (c : Nat) (bs : List Int) (w : World) (h : DC w g a c bs) : Calls Try.prog 32 #[.pointer (some ⟨g, 0, none⟩)] w (DrawTS w g a c bs) := by
  have HgB : Hid (∀ k, k ∈ [g] → k < w.heap.size) := fun k hk => by rw [List.mem_singleton.1 hk]; exact h.lt
  obtain ⟨B, hB⟩ : ∃ B, w.heap.size = B := ⟨_, rfl⟩
  have u1 : Upd [] w (w.alloc (.cells #[.slice none 0 0, .slice none 0 0, .int .i64 0] 26)) := (Upd.refl w).alloc _
  have RB := Box.new w (.slice none 0 0) (.slice none 0 0) (.int .i64 0) 26
  rw [hB] at RB
  have RB := Lib.hid RB
  have D := Lib.hid (h.kept0 u1)
  have U : Hid (Upd [g] w (w.alloc (.cells #[.slice none 0 0, .slice none 0 0, .int .i64 0] 26))) := u1.mono (by simp)
  have s1 : B ≤ (w.alloc (.cells #[.slice none 0 0, .slice none 0 0, .int .i64 0] 26)).heap.size := by simp [hB]
  clear h u1
  go_enter Try.func32, Try.ntmps32
  go_wp2_with fail
  refine (l09Draw_c g a c bs _ D.out).mono ?_
  rintro e wn ⟨gf, cf, gr, cr, fs, rs, n, rfl, o1, o2, ap, ⟨lf1, lf2, lr⟩, hd, hu⟩
  replace RB := Lib.hid (RB.out.kept hu (fun hm => by have := HgB.out _ hm; omega))
  replace D := Lib.hid hd
  replace U := Lib.hid (U.out.then1 hu)
  have OF := Lib.hid (o1.mono s1)
  have OR := Lib.hid (o2.mono s1)
  clear hd hu s1 o1 o2
  have bX := Box.new wn (.slice (some ⟨gf, 0, none⟩) fs.length cf) (.slice (some ⟨gr, 0, none⟩) rs.length cr) (.int .i64 n) 26
  have uX : Upd [] wn (wn.alloc (.cells #[.slice (some ⟨gf, 0, none⟩) fs.length cf, .slice (some ⟨gr, 0, none⟩) rs.length cr, .int .i64 n] 26)) := (Upd.refl wn).alloc _
  have hlt := RB.out.lt
  have T : Hid (TB (wn.alloc (.cells #[.slice (some ⟨gf, 0, none⟩) fs.length cf, .slice (some ⟨gr, 0, none⟩) rs.length cr, .int .i64 n] 26)) B wn.heap.size gf cf gr cr fs rs n) := ⟨bX, OF.out.kept0 uX, OR.out.kept0 uX, ap, by omega⟩
  replace D := Lib.hid (D.out.kept0 uX)
  replace RB := Lib.hid (RB.out.kept uX (by simp))
  replace U := Lib.hid (U.out.then0 uX)
  clear OF OR uX bX
  go_wp2_with fail
  obtain ⟨X, hXe⟩ : ∃ X, wn.heap.size = X := ⟨_, rfl⟩
  rw [hXe] at T hlt ⊢
  have hXne : X ≠ B := by omega
  clear hXe hlt
  generalize wn.alloc (.cells #[.slice (some ⟨gf, 0, none⟩) fs.length cf, .slice (some ⟨gr, 0, none⟩) rs.length cr, .int .i64 n] 26) = w2 at T D RB U ⊢
  have HgB2 := HgB.out g (by simp)
  have HS : Hid (∀ w', Upd [g, B] w2 w' → w'.cell? ⟨X, 0, none⟩ = some (.slice (some ⟨gf, 0, none⟩) fs.length cf) ∧ w'.cell? ⟨X, 1, none⟩ = some (.slice (some ⟨gr, 0, none⟩) rs.length cr) ∧ w'.cell? ⟨X, 2, none⟩ = some (.int .i64 n)) := fun w' u => (T.out.box.kept u (by have := T.out.low; simp; omega)).cells
  have V0 : Hid (Upd [g] w2 w2.drew) := (Upd.refl w2).drew.mono (by simp)
  have D0 := Lib.hid (D.out.kept0 (Upd.refl w2).drew)
  have MB : ∀ w', Upd [g] w2 w' → Upd [g, B] w2 w' := fun w' u => u.mono (by simp)
  obtain ⟨hs0, hs1, hs2⟩ := HS.out w2 ((Upd.refl w2).mono (by simp))
  clear HgB2
  go_wp2_with fail
  go_region_held3 (fun w' => w'.cell? ⟨X, 0, none⟩ = some (.slice (some ⟨gf, 0, none⟩) fs.length cf) ∧ w'.cell? ⟨X, 1, none⟩ = some (.slice (some ⟨gr, 0, none⟩) rs.length cr) ∧ w'.cell? ⟨X, 2, none⟩ = some (.int .i64 n))
    (first | exact HS.out _ ((Upd.refl w2).mono (by simp)) | exact HS.out _ (MB _ V0.out) | exact HS.out _ (MB _ V1.out) | exact HS.out _ (MB _ V2.out) | exact HS.out _ (MB _ V3.out) | exact HS.out _ (MB _ V4.out) | exact HS.out _ ((((MB _ V4.out).setCell _ (.inl (by simp))).setCell _ (.inl (by simp))).setCell _ (.inl (by simp))))
    (first
      | (go_at_call 34
         refine (l01Next_c g a c bs _ _ D3.out).mono ?_
         rintro e w6 ⟨x4, rfl, -, hd, hu⟩
         have D4 := Lib.hid hd
         have V4 := Lib.hid (V3.out.then1 hu)
         clear hd hu
         have RB4 := Lib.hid (RB.out.kept V4.out (fun hm => by have := HgB.out _ hm; omega))
         obtain ⟨hm0, hm1, hm2⟩ := RB4.out.cells
         have hg0 := RB4.out.free 0
         have hg1 := RB4.out.free 1
         have hg2 := RB4.out.free 2)
      | (go_at_call 34
         refine (l01Next_c g a c bs _ _ D2.out).mono ?_
         rintro e wn3 ⟨x3, rfl, -, hd, hu⟩
         have D3 := Lib.hid hd
         have V3 := Lib.hid (V2.out.then1 hu)
         clear hd hu)
      | (go_at_call 34
         refine (l01Next_c g a c bs _ _ D1.out).mono ?_
         rintro e wn2 ⟨x2, rfl, -, hd, hu⟩
         have D2 := Lib.hid hd
         have V2 := Lib.hid (V1.out.then1 hu)
         clear hd hu)
      | (go_at_call 34
         refine (l01Next_c g a c bs _ _ D0.out).mono ?_
         rintro e wn1 ⟨x1, rfl, -, hd, hu⟩
         have D1 := Lib.hid hd
         have V1 := Lib.hid (V0.out.then1 hu)
         clear hd hu))
  clear hs0 hs1 hs2 hm0 hm1 hm2 hg0 hg1 hg2 V0 V1 V2 V3 D0 D1 D2 D3 MB HS
  have T4 := Lib.hid (T.out.kept V4.out (by rw [← hB]; exact HgB.out))
  have U4 := Lib.hid (U.out.then1 V4.out)
  have RBf := Lib.hid (((RB4.out.set0 (v := .slice (some ⟨gf, 0, none⟩) fs.length cf)).set1 (v := .slice (some ⟨gr, 0, none⟩) rs.length cr)).set2 (v := .int .i64 n))
  obtain ⟨hr0, hr1, hr2⟩ := RBf.out.cells
  have hu5 : Upd [B] w6 (((w6.setCell ⟨B, 0, none⟩ (.slice (some ⟨gf, 0, none⟩) fs.length cf)).setCell ⟨B, 1, none⟩ (.slice (some ⟨gr, 0, none⟩) rs.length cr)).setCell ⟨B, 2, none⟩ (.int .i64 n)) :=
    ((((Upd.refl w6).mono (gs := []) (hs := [B]) (by simp)).setCell _ (.inl (by simp))).setCell _ (.inl (by simp))).setCell _ (.inl (by simp))
  have hne1 := own_ne T4.out.f RB4.out
  have hne2 := own_ne T4.out.r RB4.out
  go_wp2_with fail
  refine bodyPost_ret (v := .tuple #[.agg #[.slice (some ⟨gf, 0, none⟩) fs.length cf, .slice (some ⟨gr, 0, none⟩) rs.length cr, .int .i64 n], .int .i64 x2, .int .i64 x4]) ?_ rfl ?_
  · simp [results, Try.f32, asAddr, loadVar, loadCells, loadCellsFrom, Addr.add, hr0, hr1, hr2]
  · exact ⟨gf, cf, gr, cr, fs, rs, n, x2, x4, rfl, by rw [hB]; exact (T4.out.f).keptNe hu5 (fun k hk => by cases hk; simpa using hne1), by rw [hB]; exact (T4.out.r).keptNe hu5 (fun k hk => by cases hk; simpa using hne2), T4.out.ap, by omega, (D4.out).kept hu5 (fun k hk => by rw [List.mem_singleton.1 hk]; have := HgB.out g (by simp); omega), (U4.out).afterB hu5 (fun k hk => by rw [List.mem_singleton.1 hk]; omega)⟩
/-! ### From the code -/
def RdT (w' : World) (v : Value) (fs rs : List Int) (n : Int) : Prop := ∃ p1 c1 p2 c2, v = .agg #[.slice p1 fs.length c1, .slice p2 rs.length c2, .int .i64 n] ∧ IntsAt w' p1 fs ∧ IntsAt w' p2 rs ∧ (fs.length ≤ 3 ∧ rs.length ≤ 10)
end Go.Proofs.Ytjnkckpebfafjaa
