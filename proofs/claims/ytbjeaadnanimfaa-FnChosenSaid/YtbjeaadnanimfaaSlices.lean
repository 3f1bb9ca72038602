/- Memory: slices of slices of int64 that read as a list of lists, and those that the call owns. -/
import Derived.Test.YtbjeaadnanimfaaLawFns
import Derived.Laws.CopyOwn
namespace Go.Proofs.Ytbjeaadnanimfaa
open Go.RowKit
set_option linter.unusedVariables false
set_option linter.unusedSimpArgs false

theorem infoS : (Try.prog.info? 24).map (fun i => (i.zero, i.size, i.bytes)) = some (some (.slice none 0 0), 1, 24) := by kernel_rfl
/-- A slice of slices reads as a list of lists. -/
def RowsAt (w : World) (a : Option Addr) (L : List (List Int)) : Prop :=
  L = [] ∨ ∃ b off, a = some ⟨b, off, none⟩ ∧ ∀ k r, L[k]? = some r → ∃ a' c, w.cell? ⟨b, off + k, none⟩ = some (.slice a' r.length c) ∧ IntsAt w a' r
theorem RowsAt.kept0 {w w' : World} {a : Option Addr} {L : List (List Int)} (h : RowsAt w a L) (u : Upd [] w w') : RowsAt w' a L := by
  rcases h with rfl | ⟨b, off, rfl, hc⟩
  · exact .inl rfl
  · refine .inr ⟨b, off, rfl, fun k r hr => ?_⟩
    obtain ⟨a', c, h1, h2⟩ := hc k r hr
    exact ⟨a', c, u.cell h1 (by simp), h2.kept0 u⟩
theorem RowsAt.get {w : World} {a : Option Addr} {L : List (List Int)} (h : RowsAt w a L) {k : Nat} (hk : k < L.length) :
    ∃ b off r a' c, a = some ⟨b, off, none⟩ ∧ w.cell? ⟨b, off + k, none⟩ = some (.slice a' r.length c) ∧ Hid (IntsAt w a' r) ∧ Hid (L[k]? = some r) := by
  rcases h with rfl | ⟨b, off, rfl, hc⟩
  · simp at hk
  · obtain ⟨a', c, h1, h2⟩ := hc k _ (List.getElem?_eq_getElem hk)
    exact ⟨b, off, L[k], a', c, rfl, h1, h2, List.getElem?_eq_getElem hk⟩

/-- The outer slice of one's own: the values in it. -/
def OwnV (w : World) (B : Nat) (v : Value) (vs : List Value) : Prop := w.ownsRow B 24 1 v vs.length vs
theorem OwnV.nil (w : World) (B : Nat) : OwnV w B (.slice none 0 0) [] := World.ownsRow_nil w B _ _
theorem OwnV.lit {w0 w : World} (hu : Upd [] w0 w) : OwnV (w.alloc (.cells #[] 24)) w0.heap.size (.slice (some ⟨w.heap.size, 0, none⟩) 0 0) [] :=
  World.ownsRow_lit w #[] 0 hu.size (by unfold maxLen; omega) rfl
theorem OwnV.keptNe {gs : List Nat} {w w' : World} {B : Nat} {v : Value} {vs : List Value} (h : OwnV w B v vs) (u : Upd gs w w') (hd : ∀ k, v.ownBlock = some k → k ∉ gs) : OwnV w' B v vs := u.own h hd
theorem OwnV.kept {gs : List Nat} {w w' : World} {B : Nat} {v : Value} {vs : List Value} (h : OwnV w B v vs) (u : Upd gs w w') (hd : ∀ k, k ∈ gs → k < B) : OwnV w' B v vs :=
  u.own h fun k hk hg => by have := (World.ownsRow.lt (w := w) h) k hk; have := hd k hg; omega
theorem OwnV.kept0 {w w' : World} {B : Nat} {v : Value} {vs : List Value} (h : OwnV w B v vs) (u : Upd [] w w') : OwnV w' B v vs := h.kept u (by simp)
theorem OwnV.form {w : World} {B : Nat} {v : Value} {vs : List Value} (h : OwnV w B v vs) : ∃ a c, v = .slice a vs.length c ∧ (∀ ad, a = some ad → B ≤ ad.block ∧ ad.block < w.heap.size ∧ ad.off = 0 ∧ ad.spot = none) ∧ (a = none → vs.length = 0) := by
  rcases h.2 with ⟨rfl, hn⟩ | ⟨g, cap, cur, rfl, hb, hg, rest⟩
  · rw [hn]; exact ⟨none, 0, rfl, by simp, fun _ => rfl⟩
  · exact ⟨_, cap, rfl, fun ad e => by cases e; exact ⟨hb, (Array.getElem?_eq_some_iff.1 hg).1, rfl, rfl⟩, by simp⟩
theorem OwnV.row {w : World} {B : Nat} {v : Value} {vs : List Value} (h : OwnV w B v vs) (hne : 0 < vs.length) : ∃ g c, v = .slice (some ⟨g, 0, none⟩) vs.length c ∧ B ≤ g ∧ g < w.heap.size := by
  rcases h.2 with ⟨rfl, hn⟩ | ⟨g, cap, cur, rfl, hb, hg, rest⟩
  · omega
  · exact ⟨g, cap, rfl, hb, (Array.getElem?_eq_some_iff.1 hg).1⟩
theorem OwnV.len {w : World} {B n c : Nat} {a : Option Addr} {vs : List Value} (h : OwnV w B (.slice a n c) vs) : n = vs.length := by
  obtain ⟨a, c', e, -, -⟩ := h.form
  cases e; rfl
theorem OwnV.cell {w : World} {B g c n : Nat} {vs : List Value} (h : OwnV w B (.slice (some ⟨g, 0, none⟩) n c) vs) {k : Nat} {x : Value} (hx : vs[k]? = some x) : w.cell? ⟨g, k, none⟩ = some x := by
  have hn := h.len; subst hn
  have := (List.getElem?_eq_some_iff.1 hx).1
  rw [World.ownsRow.cellAt (w := w) h k (by simpa using this)]; exact hx
theorem OwnV.free {w : World} {B g c n : Nat} {vs : List Value} (h : OwnV w B (.slice (some ⟨g, 0, none⟩) n c) vs) (k : Nat) : w.frozen? ⟨g, k, none⟩ = false := by
  have hn := h.len; subst hn
  exact World.ownsRow.frozenAt (w := w) h k
theorem OwnV.cap {w : World} {B n c : Nat} {a : Option Addr} {vs : List Value} (h : OwnV w B (.slice a n c) vs) : vs.length ≤ c ∧ (a = none → c = 0) := by
  rcases h.2 with ⟨e, hn⟩ | ⟨g, cap, cur, e, hb, hg, hc, rest⟩
  · cases e; exact ⟨by omega, fun _ => rfl⟩
  · cases e; exact ⟨hc, fun h => by simp at h⟩
theorem OwnV.set {w : World} {B g c n : Nat} {vs : List Value} (h : OwnV w B (.slice (some ⟨g, 0, none⟩) n c) vs) (k : Nat) (x : Value) (hk : k < vs.length) : OwnV (w.setCell ⟨g, k, none⟩ x) B (.slice (some ⟨g, 0, none⟩) n c) (vs.set k x) := by
  have hn := h.len; subst hn
  have := (World.ownsRow.stored (w := w) h k x).1
  unfold OwnV
  simpa using this
/-- A row of int64 and the outer row never share a block. -/
theorem OwnV.ne {w : World} {B C n c : Nat} {v : Value} {vs : List Value} {xs : List Int} {g : Nat} (h : OwnV w B v vs) (k : OwnI w C (.slice (some ⟨g, 0, none⟩) n c) xs) : v.ownBlock ≠ some g := by
  intro e
  rcases h.2 with ⟨rfl, hn⟩ | ⟨g', cap, cur, rfl, hb, hg, rest⟩
  · simp [Value.ownBlock] at e
  · simp only [Value.ownBlock, Option.some.injEq] at e
    subst e
    rcases k.2 with ⟨e2, _⟩ | ⟨g2, cap2, cur2, e2, hb2, hg2, rest2⟩
    · simp at e2
    · simp only [Value.slice.injEq, Option.some.injEq, Addr.mk.injEq] at e2
      rw [← e2.1.1] at hg2
      rw [hg] at hg2
      simp at hg2

/-! ### Rows of one's own: block, capacity, numbers -/
def valR (e : Nat × Nat × List Int) : Value := .slice (some ⟨e.1, 0, none⟩) e.2.2.length e.2.1
/-- The rows themselves. -/
structure Inn (w : World) (B : Nat) (L : List (Nat × Nat × List Int)) : Prop where
  rows : ∀ e, e ∈ L → OwnI w B (valR e) e.2.2
  nodup : (L.map (·.1)).Nodup
theorem Inn.lt {w : World} {B : Nat} {L : List (Nat × Nat × List Int)} (h : Inn w B L) {e : Nat × Nat × List Int} (he : e ∈ L) : B ≤ e.1 ∧ e.1 < w.heap.size :=
  (World.ownsRow.lt (w := w) (h.rows e he)) e.1 rfl
theorem Inn.nil (w : World) (B : Nat) : Inn w B [] := ⟨fun e he => by simp at he, by simp⟩
theorem Inn.keptNe {gs : List Nat} {w w' : World} {B : Nat} {L : List (Nat × Nat × List Int)} (h : Inn w B L) (u : Upd gs w w') (hd : ∀ e, e ∈ L → e.1 ∉ gs) : Inn w' B L :=
  ⟨fun e he => (h.rows e he).keptNe u fun k hk => by simp only [valR, Value.ownBlock, Option.some.injEq] at hk; rw [← hk]; exact hd e he, h.nodup⟩
theorem Inn.kept {gs : List Nat} {w w' : World} {B : Nat} {L : List (Nat × Nat × List Int)} (h : Inn w B L) (u : Upd gs w w') (hd : ∀ k, k ∈ gs → k < B) : Inn w' B L :=
  h.keptNe u fun e he hg => by have := (h.lt he).1; have := hd _ hg; omega
theorem Inn.kept0 {w w' : World} {B : Nat} {L : List (Nat × Nat × List Int)} (h : Inn w B L) (u : Upd [] w w') : Inn w' B L := h.kept u (by simp)
/-- The outer row is written. -/
theorem Inn.keptV {w w' : World} {B C : Nat} {L : List (Nat × Nat × List Int)} {v : Value} {vs : List Value} (h : Inn w B L) (k : OwnV w C v vs) (u : Upd v.ownBlock.toList w w') : Inn w' B L :=
  h.keptNe u fun e he hg => k.ne (h.rows e he) (by simpa using hg)
theorem Inn.mono {w : World} {B B' : Nat} {L : List (Nat × Nat × List Int)} (h : Inn w B L) (hB : B' ≤ B) : Inn w B' L := ⟨fun e he => (h.rows e he).mono hB, h.nodup⟩
/-- One row more, wherever. -/
theorem Inn.ins {w : World} {B : Nat} {L : List (Nat × Nat × List Int)} (h : Inn w B L) (e : Nat × Nat × List Int) (he : OwnI w B (valR e) e.2.2) (hn : ∀ x, x ∈ L → x.1 ≠ e.1) (k : Nat) : Inn w B (L.take k ++ e :: L.drop k) := by
  refine ⟨fun x hx => ?_, ?_⟩
  · rcases List.mem_append.1 hx with hx | hx
    · exact h.rows x (List.mem_of_mem_take hx)
    · rcases List.mem_cons.1 hx with rfl | hx
      · exact he
      · exact h.rows x (List.mem_of_mem_drop hx)
  · have h1 : (L.take k ++ e :: L.drop k).map (·.1) = (L.map (·.1)).take k ++ e.1 :: (L.map (·.1)).drop k := by simp [List.map_take, List.map_drop]
    rw [h1]
    have h2 : e.1 ∉ L.map (·.1) := fun hm => by
      obtain ⟨x, hx, ex⟩ := List.mem_map.1 hm
      exact hn x hx ex
    have h3 := h.nodup
    rw [← List.take_append_drop k (L.map (·.1))] at h3 h2
    rw [List.nodup_append] at h3 ⊢
    obtain ⟨n1, n2, n3⟩ := h3
    refine ⟨n1, List.nodup_cons.2 ⟨fun hm => h2 (List.mem_append.2 (.inr hm)), n2⟩, fun a ha b hb => ?_⟩
    rcases List.mem_cons.1 hb with rfl | hb
    · intro e'; subst e'; exact h2 (List.mem_append.2 (.inl ha))
    · exact n3 a ha b hb
theorem Inn.snoc {w : World} {B : Nat} {L : List (Nat × Nat × List Int)} (h : Inn w B L) (e : Nat × Nat × List Int) (he : OwnI w B (valR e) e.2.2) (hn : ∀ x, x ∈ L → x.1 ≠ e.1) : Inn w B (L ++ [e]) := by
  have := h.ins e he hn L.length
  simpa using this
/-- Outer slice and rows. -/
def OwnR (w : World) (B : Nat) (v : Value) (L : List (Nat × Nat × List Int)) : Prop := OwnV w B v (L.map valR) ∧ Inn w B L
theorem OwnR.kept {gs : List Nat} {w w' : World} {B : Nat} {v : Value} {L : List (Nat × Nat × List Int)} (h : OwnR w B v L) (u : Upd gs w w') (hd : ∀ k, k ∈ gs → k < B) : OwnR w' B v L := ⟨h.1.kept u hd, h.2.kept u hd⟩
theorem OwnR.kept0 {w w' : World} {B : Nat} {v : Value} {L : List (Nat × Nat × List Int)} (h : OwnR w B v L) (u : Upd [] w w') : OwnR w' B v L := h.kept u (by simp)
theorem OwnR.mono {w : World} {B B' : Nat} {v : Value} {L : List (Nat × Nat × List Int)} (h : OwnR w B v L) (hB : B' ≤ B) : OwnR w B' v L := by
  refine ⟨⟨h.1.1, ?_⟩, h.2.mono hB⟩
  rcases h.1.2 with hn | ⟨g, cap, cur, e, hb, rest⟩
  · exact .inl hn
  · exact .inr ⟨g, cap, cur, e, by omega, rest⟩
theorem OwnI.ints1 {w : World} {B : Nat} {e : Nat × Nat × List Int} (h : OwnI w B (valR e) e.2.2) : IntsAt w (some ⟨e.1, 0, none⟩) e.2.2 := OwnI.ints h
theorem OwnR.rowsAt {w : World} {B n c : Nat} {a : Option Addr} {L : List (Nat × Nat × List Int)} (h : OwnR w B (.slice a n c) L) : RowsAt w a (L.map (·.2.2)) := by
  obtain ⟨a', c', e, h1, h2⟩ := h.1.form
  cases e
  cases ha : a with
  | none =>
    have := h2 ha
    have : L = [] := List.eq_nil_of_length_eq_zero (by simpa using this)
    exact .inl (by simp [this])
  | some ad =>
    obtain ⟨-, -, h3, h4⟩ := h1 ad ha
    obtain ⟨b, off, spot⟩ := ad
    simp only at h3 h4
    subst h3; subst h4
    refine .inr ⟨b, 0, rfl, fun k r hr => ?_⟩
    rw [List.getElem?_map] at hr
    cases hk : L[k]? with
    | none => rw [hk] at hr; simp at hr
    | some x =>
      rw [hk] at hr
      simp only [Option.map_some, Option.some.injEq] at hr
      subst hr
      have ho := h.1
      rw [ha] at ho
      have hc := ho.cell (k := k) (x := valR x) (by rw [List.getElem?_map, hk]; rfl)
      rw [Nat.zero_add]
      exact ⟨_, _, hc, (h.2.rows x (mem_of_get hk)).ints1⟩
section
variable {ops : Array Oper} {rest : List Oper} {o : Oper} {a : Act} {Q : Exit → Act → World → Prop}
/-- 'append(out, u)', u one slice. -/
theorem wpList_appV {w0 w : World} (hg : o.guard = none) (s x : Operand)
    (hop : o.op = .call { callee := .builtin .append, args := #[s, x], argTypes := #[50, 50] })
    (v : Value) (vs : List Value) (p : Option Addr) (m k : Nat) (hs : a.eval s = v) (hx : a.eval x = .slice (some ⟨w.heap.size, 0, none⟩) 1 1)
    (hown : OwnV w w0.heap.size v vs) (hu : Upd [] w0 w) (hl : vs.length ≤ 2097152)
    (h : ∀ v' w', OwnV w' w0.heap.size v' (vs ++ [.slice p m k]) → Upd v.ownBlock.toList w w' → Upd [] w0 w' → wpList Try.prog ops Q rest (a.put o.dst v') w') :
    wpList Try.prog ops Q (o :: rest) a (w.alloc (.cells #[.slice p m k] 24)) := by
  obtain ⟨i0, hi, hz0, hz1, hz2⟩ := info_parts infoS
  have hsz := hu.size
  refine wpList_append_own _ hg s x 50 hop w0.heap.size 24 i0 (.slice none 0 0) 1 24 Try.underlying50 hi hz0 hz1 hz2 rfl (by decide) v vs.length vs hs (World.ownsRow.alloc (w := w) hown _)
    ⟨w.heap.size, 0, none⟩ 1 1 [.slice p m k] hx rfl (cell_one_new _ _ _) (by simp [Value.oneCell']) (by unfold maxLen; omega) (by omega) (by simp; omega) fun v' w' h1 h2 _ => h v' w' ?_ ?_ ?_
  · unfold OwnV; simpa using h1
  · exact (((Upd.refl w).alloc (.cells #[.slice p m k] 24)).mono (by simp)).grown h2 fun k hk => .inl (by simp [hk])
  · refine (hu.alloc (.cells #[.slice p m k] 24)).grown h2 fun k hk => .inr ?_
    exact ((World.ownsRow.lt (w := w) hown) k hk).1
/-- 'append(out, us...)'. -/
theorem wpList_appVs {w0 w : World} (hg : o.guard = none) (s x : Operand)
    (hop : o.op = .call { callee := .builtin .append, args := #[s, x], argTypes := #[50, 50] })
    (v : Value) (vs us : List Value) (ad : Addr) (c : Nat) (hs : a.eval s = v) (hx : a.eval x = .slice (some ad) us.length c) (hy : ∀ j u, us[j]? = some u → w.cell? (ad.add j) = some u) (h1 : ∀ u ∈ us, u.oneCell' = true)
    (hown : OwnV w w0.heap.size v vs) (hu : Upd [] w0 w) (hl : vs.length ≤ 2097152) (hl2 : us.length ≤ 2097152)
    (h : ∀ v' w', OwnV w' w0.heap.size v' (vs ++ us) → Upd v.ownBlock.toList w w' → Upd [] w0 w' → wpList Try.prog ops Q rest (a.put o.dst v') w') :
    wpList Try.prog ops Q (o :: rest) a w := by
  obtain ⟨i0, hi, hz0, hz1, hz2⟩ := info_parts infoS
  have hsz := hu.size
  refine wpList_append_own _ hg s x 50 hop w0.heap.size 24 i0 (.slice none 0 0) 1 24 Try.underlying50 hi hz0 hz1 hz2 rfl (by decide) v vs.length vs hs hown
    ad us.length c us hx (by simp) hy h1 (by unfold maxLen; omega) (by omega) hsz fun v' w' h1 h2 _ => h v' w' ?_ ?_ ?_
  · unfold OwnV; simpa using h1
  · exact ((Upd.refl w).mono (by simp)).grown h2 fun k hk => .inl (by simp [hk])
  · exact hu.grown h2 fun k hk => .inr ((World.ownsRow.lt (w := w) hown) k hk).1
end
/-! ### Marks -/
def markE (k : Int) : List (Nat × Nat × List Int) → List (Nat × Nat × List Int)
  | [] => []
  | e :: t => (e.1, e.2.1, marks k e.2.2.length) :: markE (k + e.2.2.length) t
/-- How many numbers. -/
def cells2 : List (List Int) → Nat
  | [] => 0
  | r :: t => r.length + cells2 t
def mrows (k : Int) : List (List Int) → List (List Int)
  | [] => []
  | r :: t => marks k r.length :: mrows (k + r.length) t
theorem mrows_length (k : Int) (L : List (List Int)) : (mrows k L).length = L.length := by
  induction L generalizing k with
  | nil => rfl
  | cons r t ih => simp [mrows, ih]
theorem cells2_append (a b : List (List Int)) : cells2 (a ++ b) = cells2 a + cells2 b := by
  induction a with
  | nil => simp [cells2]
  | cons r t ih => simp [cells2, ih]; omega
theorem cells2_take {L : List (List Int)} {k : Nat} {r : List Int} (h : L[k]? = some r) : cells2 (L.take (k + 1)) = cells2 (L.take k) + r.length := by
  rw [take_step h, cells2_append]; simp [cells2]
theorem cells2_take_le (L : List (List Int)) (k : Nat) : cells2 (L.take k) ≤ cells2 L := by
  have := cells2_append (L.take k) (L.drop k)
  rw [List.take_append_drop] at this; omega
theorem mrows_get {L : List (List Int)} {k : Nat} {r : List Int} (h : L[k]? = some r) (m : Int) : (mrows m L)[k]? = some (marks (m + cells2 (L.take k)) r.length) := by
  induction L generalizing k m with
  | nil => simp at h
  | cons x t ih =>
    cases k with
    | zero => simp at h; subst h; simp [mrows, cells2]
    | succ k =>
      simp only [List.getElem?_cons_succ] at h
      simp only [mrows, List.getElem?_cons_succ, List.take_succ_cons, cells2]
      rw [ih h, Int.natCast_add, Int.add_assoc]
end Go.Proofs.Ytbjeaadnanimfaa
