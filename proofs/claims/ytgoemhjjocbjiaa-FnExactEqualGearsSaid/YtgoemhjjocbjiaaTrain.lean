/- Chapter 9: the laws' helpers over a drive train. -/
import Derived.Test.YtgoemhjjocbjiaaLawFns
import Derived.Lib.SmallJoins
namespace Go.Proofs.Ytgoemhjjocbjiaa
open Go.RowKit
set_option linter.unusedVariables false
set_option linter.unusedSimpArgs false

/-- A block of three cells. -/
def Box (w : World) (g : Nat) (c0 c1 c2 : Value) (t : TypeId) : Prop := w.heap[g]? = some (.cells #[c0, c1, c2] t)
theorem Box.kept {gs : List Nat} {w w' : World} {g : Nat} {c0 c1 c2 : Value} {t : TypeId} (h : Box w g c0 c1 c2 t) (u : Upd gs w w') (hg : g ∉ gs) : Box w' g c0 c1 c2 t := by
  unfold Box at *
  have := (Array.getElem?_eq_some_iff.1 h).1
  rw [u.block g this hg]; exact h
theorem Box.cells {w : World} {g : Nat} {c0 c1 c2 : Value} {t : TypeId} (h : Box w g c0 c1 c2 t) : w.cell? ⟨g, 0, none⟩ = some c0 ∧ w.cell? ⟨g, 1, none⟩ = some c1 ∧ w.cell? ⟨g, 2, none⟩ = some c2 :=
  ⟨Joins.cell_of_block h 0, Joins.cell_of_block h 1, Joins.cell_of_block h 2⟩
theorem Box.free {w : World} {g : Nat} {c0 c1 c2 : Value} {t : TypeId} (h : Box w g c0 c1 c2 t) (i : Nat) : w.frozen? ⟨g, i, none⟩ = false := Joins.unfrozen_of_block h i
theorem Box.new (w : World) (c0 c1 c2 : Value) (t : TypeId) : Box (w.alloc (.cells #[c0, c1, c2] t)) w.heap.size c0 c1 c2 t := by show (w.heap.push _)[w.heap.size]? = _; exact Array.getElem?_push_size
theorem Box.lt {w : World} {g : Nat} {c0 c1 c2 : Value} {t : TypeId} (h : Box w g c0 c1 c2 t) : g < w.heap.size := (Array.getElem?_eq_some_iff.1 h).1
theorem Box.set0 {w : World} {g : Nat} {c0 c1 c2 v : Value} {t : TypeId} (h : Box w g c0 c1 c2 t) : Box (w.setCell ⟨g, 0, none⟩ v) g v c1 c2 t := by
  have := Joins.block_setCell (i := 0) h v; simpa [Box] using this
theorem Box.set1 {w : World} {g : Nat} {c0 c1 c2 v : Value} {t : TypeId} (h : Box w g c0 c1 c2 t) : Box (w.setCell ⟨g, 1, none⟩ v) g c0 v c2 t := by
  have := Joins.block_setCell (i := 1) h v; simpa [Box] using this
theorem Box.set2 {w : World} {g : Nat} {c0 c1 c2 v : Value} {t : TypeId} (h : Box w g c0 c1 c2 t) : Box (w.setCell ⟨g, 2, none⟩ v) g c0 c1 v t := by
  have := Joins.block_setCell (i := 2) h v; simpa [Box] using this

/-- A train in new memory. -/
def NewT (w : World) (fs rs : List Int) (n : Int) (e : Ending) (w' : World) : Prop :=
  ∃ v1 v2, e = .returned (.agg #[v1, v2, .int .i64 n]) ∧ OwnI w' w.heap.size v1 fs ∧ OwnI w' w.heap.size v2 rs ∧ Upd [] w w' ∧ ∀ k k', v1.ownBlock = some k → v2.ownBlock = some k' → k < k'
set_option maxHeartbeats 800000 in
theorem toTrain_c (a1 a2 : Option Addr) (c1 c2 : Nat) (fs rs : List Int) (n : Int) (w : World) (h1 : IntsAt w a1 fs) (h2 : IntsAt w a2 rs) (hl1 : fs.length ≤ 1048576) (hl2 : rs.length ≤ 1048576) :
    Calls Try.prog 17 #[.agg #[.slice a1 fs.length c1, .slice a2 rs.length c2, .int .i64 n]] w (NewT w fs rs n) := by
  have H : Hid (∀ w', Upd [] w w' → IntsAt w' a1 fs ∧ IntsAt w' a2 rs) := fun w' u => ⟨h1.kept0 u, h2.kept0 u⟩
  have B0 := Lib.hid (Box.new w (.slice a1 fs.length c1) (.slice a2 rs.length c2) (.int .i64 n) 24)
  clear h1 h2
  go_enter Try.func17, Try.ntmps17
  go_wp2_with fail
  have B1 := Lib.hid (Box.new (w.alloc (.cells #[.slice a1 fs.length c1, .slice a2 rs.length c2, .int .i64 n] 24)) (.slice none 0 0) (.slice none 0 0) (.int .i64 0) 27)
  have B2 := Lib.hid (Box.new ((w.alloc (.cells #[.slice a1 fs.length c1, .slice a2 rs.length c2, .int .i64 n] 24)).alloc (.cells #[.slice none 0 0, .slice none 0 0, .int .i64 0] 27)) (.slice none 0 0) (.slice none 0 0) (.int .i64 0) 27)
  have U0 := Lib.hid ((((Upd.refl w).alloc (.cells #[.slice a1 fs.length c1, .slice a2 rs.length c2, .int .i64 n] 24)).alloc (.cells #[.slice none 0 0, .slice none 0 0, .int .i64 0] 27)).alloc (.cells #[.slice none 0 0, .slice none 0 0, .int .i64 0] 27))
  replace B0 := Lib.hid ((B0.out.kept (((Upd.refl _).alloc (.cells #[.slice none 0 0, .slice none 0 0, .int .i64 0] 27)).alloc (.cells #[.slice none 0 0, .slice none 0 0, .int .i64 0] 27)) (by simp)))
  replace B1 := Lib.hid ((B1.out.kept ((Upd.refl _).alloc (.cells #[.slice none 0 0, .slice none 0 0, .int .i64 0] 27)) (by simp)))
  have S : Hid (((w.alloc (.cells #[.slice a1 fs.length c1, .slice a2 rs.length c2, .int .i64 n] 24)).alloc (.cells #[.slice none 0 0, .slice none 0 0, .int .i64 0] 27)).heap.size = w.heap.size + 1 + 1 ∧ (w.alloc (.cells #[.slice a1 fs.length c1, .slice a2 rs.length c2, .int .i64 n] 24)).heap.size = w.heap.size + 1) := ⟨by simp, by simp⟩
  rw [S.out.1] at B2
  rw [S.out.2] at B1
  clear S
  generalize ((w.alloc (.cells #[.slice a1 fs.length c1, .slice a2 rs.length c2, .int .i64 n] 24)).alloc (.cells #[.slice none 0 0, .slice none 0 0, .int .i64 0] 27)).alloc (.cells #[.slice none 0 0, .slice none 0 0, .int .i64 0] 27) = W at B0 B1 B2 U0 ⊢
  have hWs : w.heap.size + 1 + 1 < W.heap.size := B2.out.lt
  obtain ⟨b0, hb0⟩ : ∃ b, w.heap.size = b := ⟨_, rfl⟩
  have hbw : w.heap.size ≤ b0 := by omega
  rw [hb0] at B0 B1 B2 hWs ⊢
  clear hb0
  refine (toInt64S_c _ _ _ _ (H.out _ U0.out).1 hl1).mono ?_
  rintro e w1 ⟨v1, rfl, o1, u1⟩
  have L1 := Lib.hid (World.ownsRow.lt (w := w1) o1)
  obtain ⟨ao, co, rfl, -, -⟩ := o1.intsAt
  replace B0 := Lib.hid (B0.out.kept u1 (by simp))
  replace B1 := Lib.hid (B1.out.kept u1 (by simp))
  replace B2 := Lib.hid (B2.out.kept u1 (by simp))
  have U1 := Lib.hid (U0.out.then0 u1)
  have O1 := Lib.hid o1
  have hs1 := u1.size
  clear o1 u1 U0
  have hc0 := B0.out.cells.2.1
  have hc2 := B2.out.cells.1
  have hf2 := B2.out.free 0
  have B0' := Lib.hid (B0.out.kept (((Upd.refl w1).mono (gs := []) (hs := [b0 + 1 + 1]) (by simp)).setCell (p := ⟨b0 + 1 + 1, 0, none⟩) (.slice ao fs.length co) (.inl (by simp))) (by simp; omega))
  have B1' := Lib.hid (B1.out.kept (((Upd.refl w1).mono (gs := []) (hs := [b0 + 1 + 1]) (by simp)).setCell (p := ⟨b0 + 1 + 1, 0, none⟩) (.slice ao fs.length co) (.inl (by simp))) (by simp))
  have B2' := Lib.hid (B2.out.set0 (v := .slice ao fs.length co))
  have O1' := Lib.hid (O1.out.kept (((Upd.refl w1).mono (gs := []) (hs := [b0 + 1 + 1]) (by simp)).setCell (p := ⟨b0 + 1 + 1, 0, none⟩) (.slice ao fs.length co) (.inl (by simp))) (by simp; omega))
  have U2 := Lib.hid (U1.out.setCell (p := ⟨b0 + 1 + 1, 0, none⟩) (.slice ao fs.length co) (.inr (by simp; omega)))
  have hd0 := B0'.out.cells.2.1
  clear B0 B1 B2 O1 U1
  go_wp2_with fail
  clear hc0 hc2 hf2 hd0
  have HW2 : W.heap.size ≤ (w1.setCell ⟨b0 + 1 + 1, 0, none⟩ (.slice ao fs.length co)).heap.size := by simp; exact hs1
  have HW3 : w1.heap.size ≤ (w1.setCell ⟨b0 + 1 + 1, 0, none⟩ (.slice ao fs.length co)).heap.size := by simp
  generalize w1.setCell ⟨b0 + 1 + 1, 0, none⟩ (.slice ao fs.length co) = w2 at B0' B1' B2' O1' U2 HW2 HW3 ⊢
  refine (toInt64S_c _ _ _ _ (H.out _ U2.out).2 hl2).mono ?_
  rintro e w3 ⟨v2, rfl, o2, u3⟩
  obtain ⟨bo, do_, rfl, -, -⟩ := o2.intsAt
  have B0 := Lib.hid (B0'.out.kept u3 (by simp))
  have B1 := Lib.hid (B1'.out.kept u3 (by simp))
  have B2 := Lib.hid (B2'.out.kept u3 (by simp))
  have U3 := Lib.hid (U2.out.then0 u3)
  have O1 := Lib.hid (O1'.out.kept0 u3)
  have O2 := Lib.hid o2
  clear o2 u3 U2 B0' B1' B2' O1'
  have hc0 := B0.out.cells.2.2
  have hc1 := B2.out.cells.2.1
  have hf1 := B2.out.free 1
  have B2' := Lib.hid ((B2.out.set1 (v := .slice bo rs.length do_)).set2 (v := .int .i64 n))
  have hu4 : Upd [b0 + 1 + 1] w3 ((w3.setCell ⟨b0 + 1 + 1, 1, none⟩ (.slice bo rs.length do_)).setCell ⟨b0 + 1 + 1, 2, none⟩ (.int .i64 n)) := (((Upd.refl w3).mono (gs := []) (hs := [b0 + 1 + 1]) (by simp)).setCell _ (.inl (by simp))).setCell _ (.inl (by simp))
  have B1' := Lib.hid (B1.out.kept hu4 (by simp))
  have hf2 := (B2.out.set1 (v := .slice bo rs.length do_)).free 2
  have hk2 := (B2.out.set1 (v := .slice bo rs.length do_)).cells.2.2
  obtain ⟨hl0, hl1', hl2'⟩ := B2'.out.cells
  obtain ⟨hm0, hm1, hm2⟩ := B1'.out.cells
  have hg0 := B1'.out.free 0
  have hg1 := B1'.out.free 1
  have hg2 := B1'.out.free 2
  go_wp2_with fail
  have B1f := Lib.hid (((B1'.out.set0 (v := .slice ao fs.length co)).set1 (v := .slice bo rs.length do_)).set2 (v := .int .i64 n))
  obtain ⟨hr0, hr1, hr2⟩ := B1f.out.cells
  refine bodyPost_ret (v := .agg #[.slice ao fs.length co, .slice bo rs.length do_, .int .i64 n]) ?_ rfl ?_
  · simp [results, Try.f17, asAddr, loadVar, loadCells, loadCellsFrom, Addr.add, hr0, hr1, hr2]
  · have hu5 : Upd [b0 + 1, b0 + 1 + 1] w3 (((((w3.setCell ⟨b0 + 1 + 1, 1, none⟩ (.slice bo rs.length do_)).setCell ⟨b0 + 1 + 1, 2, none⟩ (.int .i64 n)).setCell ⟨b0 + 1, 0, none⟩ (.slice ao fs.length co)).setCell ⟨b0 + 1, 1, none⟩ (.slice bo rs.length do_)).setCell ⟨b0 + 1, 2, none⟩ (.int .i64 n)) :=
      ((((((Upd.refl w3).mono (gs := []) (hs := [b0 + 1, b0 + 1 + 1]) (by simp)).setCell _ (.inl (by simp))).setCell _ (.inl (by simp))).setCell _ (.inl (by simp))).setCell _ (.inl (by simp))).setCell _ (.inl (by simp))
    exact ⟨_, _, rfl, ((O1.out).kept hu5 (by simp; omega)).mono (by omega), ((O2.out).kept hu5 (by simp; omega)).mono (by omega), (U3.out).after0 hu5 (by simp; omega), fun k k' h1 h2 => by have a := (L1.out k h1).2; have b := ((World.ownsRow.lt (w := w3) O2.out) k' h2).1; omega⟩
end Go.Proofs.Ytgoemhjjocbjiaa
