/- Memory: worlds that agree but for new blocks and named ones; slices of int64 that read as a list; slices that the call owns. No function of the program is in sight. -/
import Derived.Test.YtbjeaadnanimfaaNum
namespace Go.Proofs.Ytbjeaadnanimfaa
open Go.RowKit
set_option linter.unusedVariables false
set_option linter.unusedSimpArgs false

/-- The worlds agree but for new blocks and the blocks gs. -/
structure Upd (gs : List Nat) (w w' : World) : Prop where
  os : w'.os = w.os
  tape : w'.tape = w.tape
  output : w'.output = w.output
  size : w.heap.size ≤ w'.heap.size
  block : ∀ k, k < w.heap.size → k ∉ gs → w'.heap[k]? = w.heap[k]?
theorem Upd.refl (w : World) : Upd [] w w := ⟨rfl, rfl, rfl, Nat.le_refl _, fun _ _ _ => rfl⟩
theorem Upd.mono {gs hs : List Nat} {a b : World} (h : Upd gs a b) (hh : ∀ x, x ∈ gs → x ∈ hs ∨ a.heap.size ≤ x) : Upd hs a b :=
  ⟨h.os, h.tape, h.output, h.size, fun k hk hn => h.block k hk fun hg => (hh k hg).elim hn (by omega)⟩
theorem Upd.trans {gs hs : List Nat} {a b c : World} (h : Upd gs a b) (k : Upd hs b c) (hh : ∀ x, x ∈ hs → x ∈ gs ∨ a.heap.size ≤ x) : Upd gs a c :=
  ⟨k.os.trans h.os, k.tape.trans h.tape, k.output.trans h.output, Nat.le_trans h.size k.size, fun i hi hn =>
    (k.block i (Nat.lt_of_lt_of_le hi h.size) fun hg => (hh i hg).elim hn (by omega)).trans (h.block i hi hn)⟩
theorem Upd.then0 {gs : List Nat} {a b c : World} (h : Upd gs a b) (k : Upd [] b c) : Upd gs a c := h.trans k fun _ hx => by simp at hx
theorem Upd.after0 {gs : List Nat} {a b c : World} (h : Upd [] a b) (k : Upd gs b c) (hh : ∀ x, x ∈ gs → a.heap.size ≤ x) : Upd [] a c := h.trans k fun x hx => .inr (hh x hx)
theorem Upd.grown {gs : List Nat} {a b c : World} {row : Option Nat} (h : Upd gs a b) (k : b.grownBy c row) (hr : ∀ x, row = some x → x ∈ gs ∨ a.heap.size ≤ x) : Upd gs a c :=
  h.trans (hs := row.toList) ⟨k.os, k.tape, k.output, k.size, fun i hi hn => k.block i hi (fun e => hn (by rw [← e]; simp))⟩ fun x hx => hr x (by cases row <;> simp_all)
theorem Upd.alloc {gs : List Nat} {a b : World} (h : Upd gs a b) (o : Obj) : Upd gs a (b.alloc o) := h.grown (World.grownBy_alloc b o none) (by simp)
theorem Upd.setCell {gs : List Nat} {a b : World} (h : Upd gs a b) {p : Addr} (u : Value) (hp : p.block ∈ gs ∨ a.heap.size ≤ p.block) : Upd gs a (b.setCell p u) :=
  h.grown (row := some p.block) ⟨rfl, rfl, rfl, by simp, fun k _ hn => Below.heap_setCell _ _ _ _ (fun e => hn (by rw [e]))⟩ fun x hx => by cases hx; exact hp
theorem Upd.drew {gs : List Nat} {a b : World} (h : Upd gs a b) : Upd gs a b.drew := ⟨h.os, h.tape, h.output, h.size, h.block⟩
theorem Upd.drewN {gs : List Nat} {a b : World} (h : Upd gs a b) (n : Nat) : Upd gs a (b.drewN n) := h.trans (hs := []) ⟨rfl, rfl, rfl, Nat.le_refl _, fun _ _ _ => rfl⟩ (by simp)
theorem Upd.below {w w' : World} (h : Upd [] w w') : Below w.heap.size w w' := ⟨h.os, h.tape, h.output, h.size, fun k hk => h.block k hk (by simp)⟩
theorem Upd.toGrown {w w' : World} (h : Upd [] w w') : Below w.heap.size w w' := h.below
theorem Upd.cell {gs : List Nat} {w w' : World} (h : Upd gs w w') {p : Addr} {v : Value} (hc : w.cell? p = some v) (hp : p.block ∉ gs) : w'.cell? p = some v :=
  (World.cell?_of_block (w := w) (h.block p.block (World.block_lt_of_cell? w p hc) hp)).trans hc
theorem Upd.own {gs : List Nat} {w w' : World} {base : Nat} {e : TypeId} {size : Nat} {v : Value} {n : Nat} {xs : List Value} (h : Upd gs w w')
    (ho : w.ownsRow base e size v n xs) (hd : ∀ k, v.ownBlock = some k → k ∉ gs) : w'.ownsRow base e size v n xs := by
  refine ⟨ho.1, ?_⟩
  rcases ho.2 with hn | ⟨g, cap, cur, rfl, hb, hgg, rest⟩
  · exact .inl hn
  · exact .inr ⟨g, cap, cur, rfl, hb, (h.block g (Array.getElem?_eq_some_iff.1 hgg).1 (hd g rfl)).trans hgg, rest⟩

theorem Dr.size {w w' : World} (h : Dr w w') : w'.heap.size = w.heap.size := by obtain ⟨n, rfl⟩ := h; simp
theorem Dr.upd {w w' : World} (h : Dr w w') : Upd [] w w' := by obtain ⟨n, rfl⟩ := h; exact (Upd.refl w).drewN n
/-- A slice's cells, from address a on, read as the list. -/
def IntsAt (w : World) (a : Option Addr) (xs : List Int) : Prop :=
  xs = [] ∨ ∃ b off, a = some ⟨b, off, none⟩ ∧ ∀ k x, xs[k]? = some x → w.cell? ⟨b, off + k, none⟩ = some (.int .i64 x)
theorem IntsAt.nil (w : World) (a : Option Addr) : IntsAt w a [] := .inl rfl
theorem IntsAt.kept {gs : List Nat} {w w' : World} {a : Option Addr} {xs : List Int} (h : IntsAt w a xs) (u : Upd gs w w') (hd : ∀ ad, a = some ad → ad.block ∉ gs) : IntsAt w' a xs := by
  rcases h with rfl | ⟨b, off, rfl, hc⟩
  · exact .inl rfl
  · exact .inr ⟨b, off, rfl, fun k x hx => u.cell (hc k x hx) (by have := hd ⟨b, off, none⟩ rfl; exact this)⟩
theorem IntsAt.kept0 {w w' : World} {a : Option Addr} {xs : List Int} (h : IntsAt w a xs) (u : Upd [] w w') : IntsAt w' a xs := h.kept u (by simp)
theorem IntsAt.dr {w w' : World} {a : Option Addr} {xs : List Int} (h : IntsAt w a xs) (d : Dr w w') : IntsAt w' a xs := by
  obtain ⟨n, rfl⟩ := d; exact h.kept0 ((Upd.refl w).drewN n)
theorem IntsAt.lt {w : World} {a : Option Addr} {xs : List Int} (h : IntsAt w a xs) {ad : Addr} (ha : a = some ad) : xs = [] ∨ ad.block < w.heap.size := by
  rcases h with rfl | ⟨b, off, rfl, hc⟩
  · exact .inl rfl
  · cases xs with
    | nil => exact .inl rfl
    | cons x t =>
      have := World.block_lt_of_cell? w _ (hc 0 x (by simp))
      cases ha; exact .inr this
/-- What a round that reads element k needs. -/
theorem IntsAt.get {w : World} {a : Option Addr} {xs : List Int} (h : IntsAt w a xs) {k : Nat} (hk : k < xs.length) :
    ∃ b off x, a = some ⟨b, off, none⟩ ∧ w.cell? ⟨b, off + k, none⟩ = some (.int .i64 x) ∧ Hid (xs[k]? = some x) := by
  rcases h with rfl | ⟨b, off, rfl, hc⟩
  · simp at hk
  · exact ⟨b, off, xs[k], rfl, hc k _ (List.getElem?_eq_getElem hk), List.getElem?_eq_getElem hk⟩
theorem IntsAt.drop {w : World} {b off n : Nat} {xs : List Int} (h : IntsAt w (some ⟨b, off, none⟩) xs) : IntsAt w (some ⟨b, off + n, none⟩) (xs.drop n) := by
  rcases h with rfl | ⟨b', off', e, hc⟩
  · exact .inl (by simp)
  · cases e
    exact .inr ⟨b, off + n, rfl, fun k x hx => by rw [Nat.add_assoc]; exact hc (n + k) x (by simpa using hx)⟩
theorem IntsAt.take {w : World} {a : Option Addr} {n : Nat} {xs : List Int} (h : IntsAt w a xs) : IntsAt w a (xs.take n) := by
  rcases h with rfl | ⟨b, off, rfl, hc⟩
  · exact .inl (by simp)
  · refine .inr ⟨b, off, rfl, fun k x hx => hc k x ?_⟩
    rw [List.getElem?_take] at hx
    split at hx
    · exact hx
    · simp at hx

/-- A slice of int64 that lies at the head of a block of one's own (from block B on), or nil. -/
def OwnI (w : World) (B : Nat) (v : Value) (xs : List Int) : Prop := w.ownsRow B 2 1 v xs.length (xs.map (.int .i64))
theorem OwnI.nil (w : World) (B : Nat) : OwnI w B (.slice none 0 0) [] := World.ownsRow_nil w B _ _
theorem OwnI.intsAt {w : World} {B : Nat} {v : Value} {xs : List Int} (h : OwnI w B v xs) :
    ∃ a c, v = .slice a xs.length c ∧ IntsAt w a xs ∧ (∀ ad, a = some ad → B ≤ ad.block ∧ ad.block < w.heap.size ∧ ad.off = 0 ∧ ad.spot = none) := by
  have h0 := h
  rcases h.2 with ⟨rfl, hn⟩ | ⟨g, cap, cur, rfl, hb, hg, rest⟩
  · have : xs = [] := List.eq_nil_of_length_eq_zero hn
    subst this
    exact ⟨none, 0, rfl, .inl rfl, by simp⟩
  · refine ⟨_, cap, rfl, .inr ⟨g, 0, rfl, fun k x hx => ?_⟩, fun ad e => by cases e; exact ⟨hb, (Array.getElem?_eq_some_iff.1 hg).1, rfl, rfl⟩⟩
    have hk := (List.getElem?_eq_some_iff.1 hx).1
    rw [Nat.zero_add, World.ownsRow.cellAt (w := w) h0 k (by simpa using hk)]
    simp [hx]
theorem OwnI.kept {gs : List Nat} {w w' : World} {B : Nat} {v : Value} {xs : List Int} (h : OwnI w B v xs) (u : Upd gs w w') (hd : ∀ k, k ∈ gs → k < B) : OwnI w' B v xs :=
  u.own h fun k hk hg => by have := (World.ownsRow.lt (w := w) h) k hk; have := hd k hg; omega
theorem OwnI.kept0 {w w' : World} {B : Nat} {v : Value} {xs : List Int} (h : OwnI w B v xs) (u : Upd [] w w') : OwnI w' B v xs := h.kept u (by simp)
theorem OwnI.keptNe {gs : List Nat} {w w' : World} {B : Nat} {v : Value} {xs : List Int} (h : OwnI w B v xs) (u : Upd gs w w') (hd : ∀ k, v.ownBlock = some k → k ∉ gs) : OwnI w' B v xs := u.own h hd
theorem OwnI.mono {w : World} {B B' : Nat} {v : Value} {xs : List Int} (h : OwnI w B v xs) (hB : B' ≤ B) : OwnI w B' v xs := by
  refine ⟨h.1, ?_⟩
  rcases h.2 with hn | ⟨g, cap, cur, e, hb, rest⟩
  · exact .inl hn
  · exact .inr ⟨g, cap, cur, e, by omega, rest⟩
theorem OwnI.row {w : World} {B : Nat} {v : Value} {xs : List Int} (h : OwnI w B v xs) (hne : 0 < xs.length) : ∃ g c, v = .slice (some ⟨g, 0, none⟩) xs.length c ∧ B ≤ g ∧ g < w.heap.size := by
  rcases h.2 with ⟨rfl, hn⟩ | ⟨g, cap, cur, rfl, hb, hg, rest⟩
  · omega
  · exact ⟨g, cap, rfl, hb, (Array.getElem?_eq_some_iff.1 hg).1⟩
theorem OwnI.cell {w : World} {B g c n : Nat} {xs : List Int} (h : OwnI w B (.slice (some ⟨g, 0, none⟩) n c) xs) {k : Nat} {x : Int} (hx : xs[k]? = some x) : w.cell? ⟨g, k, none⟩ = some (.int .i64 x) := by
  obtain ⟨a, c', e, hi, _⟩ := h.intsAt
  cases e
  rcases hi with rfl | ⟨b, off, e, hc⟩
  · simp at hx
  · cases e; have := hc k x hx; rwa [Nat.zero_add] at this
theorem OwnI.len {w : World} {B n c : Nat} {a : Option Addr} {xs : List Int} (h : OwnI w B (.slice a n c) xs) : n = xs.length := by
  obtain ⟨a, c', e, hi, _⟩ := h.intsAt
  cases e; rfl
theorem OwnI.free {w : World} {B g c n : Nat} {xs : List Int} (h : OwnI w B (.slice (some ⟨g, 0, none⟩) n c) xs) (k : Nat) : w.frozen? ⟨g, k, none⟩ = false := by
  have hn := h.len; subst hn
  exact World.ownsRow.frozenAt (w := w) h k
theorem OwnI.cap {w : World} {B n c : Nat} {a : Option Addr} {xs : List Int} (h : OwnI w B (.slice a n c) xs) : xs.length ≤ c ∧ (a = none → c = 0) := by
  rcases h.2 with ⟨e, hn⟩ | ⟨g, cap, cur, e, hb, hg, hc, rest⟩
  · cases e; exact ⟨by omega, fun _ => rfl⟩
  · cases e; exact ⟨hc, fun h => by simp at h⟩
theorem OwnI.set {w : World} {B g c n : Nat} {xs : List Int} (h : OwnI w B (.slice (some ⟨g, 0, none⟩) n c) xs) (k : Nat) (x : Int) (hk : k < xs.length) : OwnI (w.setCell ⟨g, k, none⟩ (.int .i64 x)) B (.slice (some ⟨g, 0, none⟩) n c) (xs.set k x) := by
  have hn := h.len; subst hn
  have := (World.ownsRow.stored (w := w) h k (.int .i64 x)).1
  unfold OwnI
  simpa [List.map_set] using this
/-- Behind 'make([]int64, n)'. -/
theorem OwnI.made {w1 : World} {B n : Nat} {v : Value} (h : w1.ownsRow B 2 1 v n (madeCells (Value.int .i64 0).cells (n * 1)).toList) : OwnI w1 B v (List.replicate n 0) := by
  have e : (madeCells (Value.int .i64 0).cells (n * 1)).toList = List.replicate n (.int .i64 0) := by
    rw [Nat.mul_one]; exact toList_madeCells_one _ _
  rw [e] at h
  unfold OwnI
  simpa using h
end Go.Proofs.Ytbjeaadnanimfaa
