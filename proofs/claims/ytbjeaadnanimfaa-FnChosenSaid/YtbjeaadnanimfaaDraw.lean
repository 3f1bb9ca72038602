/- The draws: a source of numbers out of a code. -/
import Derived.Test.YtbjeaadnanimfaaBox
namespace Go.Proofs.Ytbjeaadnanimfaa
open Go.RowKit
set_option linter.unusedVariables false
set_option linter.unusedSimpArgs false

/-- A slice of bytes reads as the list. -/
def U8At (w : World) (a : Option Addr) (bs : List Int) : Prop :=
  bs = [] ∨ ∃ b off, a = some ⟨b, off, none⟩ ∧ ∀ k x, bs[k]? = some x → w.cell? ⟨b, off + k, none⟩ = some (.int .u8 x) ∧ 0 ≤ x ∧ x ≤ 255
theorem U8At.kept {gs : List Nat} {w w' : World} {a : Option Addr} {bs : List Int} (h : U8At w a bs) (u : Upd gs w w') (hd : ∀ ad, a = some ad → ad.block ∉ gs) : U8At w' a bs := by
  rcases h with rfl | ⟨b, off, rfl, hc⟩
  · exact .inl rfl
  · exact .inr ⟨b, off, rfl, fun k x hx => ⟨u.cell (hc k x hx).1 (by have := hd ⟨b, off, none⟩ rfl; exact this), (hc k x hx).2⟩⟩
theorem U8At.kept0 {w w' : World} {a : Option Addr} {bs : List Int} (h : U8At w a bs) (u : Upd [] w w') : U8At w' a bs := h.kept u (by simp)
theorem U8At.get {w : World} {a : Option Addr} {bs : List Int} (h : U8At w a bs) {k : Nat} (hk : k < bs.length) :
    ∃ b off x, a = some ⟨b, off, none⟩ ∧ w.cell? ⟨b, off + k, none⟩ = some (.int .u8 x) ∧ 0 ≤ x ∧ x ≤ 255 := by
  rcases h with rfl | ⟨b, off, rfl, hc⟩
  · simp at hk
  · have := hc k _ (List.getElem?_eq_getElem hk)
    exact ⟨b, off, bs[k], rfl, this.1, this.2⟩
/-- The source lies in block g; the code before it. -/
structure DC (w : World) (g : Nat) (a : Option Addr) (c : Nat) (bs : List Int) : Prop where
  src : ∃ (p : Nat) (seed : Int), Box w g (.slice a bs.length c) (.int .i64 p) (.int .i64 seed) 76 ∧ p ≤ bs.length ∧ 0 ≤ seed ∧ seed < 2147483647
  code : U8At w a bs
  apart : ∀ ad, a = some ad → bs = [] ∨ ad.block < g
  short : bs.length ≤ 4096
theorem DC.lt {w : World} {g : Nat} {a : Option Addr} {c : Nat} {bs : List Int} (h : DC w g a c bs) : g < w.heap.size := by obtain ⟨p, s, hb, -⟩ := h.src; exact hb.lt
theorem DC.kept {gs : List Nat} {w w' : World} {g : Nat} {a : Option Addr} {c : Nat} {bs : List Int} (h : DC w g a c bs) (u : Upd gs w w') (hd : ∀ x, x ∈ gs → g < x) : DC w' g a c bs := by
  obtain ⟨p, s, hb, h1⟩ := h.src
  refine ⟨⟨p, s, hb.kept u fun hm => by have := hd _ hm; omega, h1⟩, ?_, h.apart, h.short⟩
  by_cases hbs : bs = []
  · exact .inl hbs
  · exact h.code.kept u fun ad ea hm => by
      rcases h.apart ad ea with h1 | h1
      · exact hbs h1
      · have := hd _ hm; omega
theorem DC.kept0 {w w' : World} {g : Nat} {a : Option Addr} {c : Nat} {bs : List Int} (h : DC w g a c bs) (u : Upd [] w w') : DC w' g a c bs := h.kept u (by simp)
theorem tmod_pos_bd (x m : Int) (hx : 0 ≤ x) (hm : 0 < m) : 0 ≤ x.tmod m ∧ x.tmod m < m := by
  rw [Int.tmod_eq_emod_of_nonneg hx]; exact ⟨Int.emod_nonneg _ (by omega), Int.emod_lt_of_pos _ hm⟩
/-- A new source. -/
def FromP (w : World) (a : Option Addr) (c : Nat) (bs : List Int) (e : Ending) (w' : World) : Prop := ∃ g, e = .returned (.pointer (some ⟨g, 0, none⟩)) ∧ w.heap.size ≤ g ∧ DC w' g a c bs ∧ Upd [] w w'
set_option maxRecDepth 20000 in
set_option maxHeartbeats 1600000 in
theorem l01From_c (a : Option Addr) (c : Nat) (bs : List Int) (w : World) (h : U8At w a bs) (hl : bs.length ≤ 4096) : Calls Try.prog 33 #[.slice a bs.length c] w (FromP w a c bs) := by
  have H : Hid (∀ w', Upd [] w w' → U8At w' a bs) := fun w' u => h.kept0 u
  have HA : Hid (∀ ad, a = some ad → bs = [] ∨ ad.block < w.heap.size) := by
    intro ad e
    rcases h with h | ⟨b, off, e2, hc⟩
    · exact .inl h
    · rw [e] at e2; cases e2
      cases hb : bs with
      | nil => exact .inl rfl
      | cons x t => exact .inr (World.block_lt_of_cell? w _ (hc 0 x (by rw [hb]; rfl)).1)
  clear h
  have HB : Hid (∃ seed : Int, Box (w.alloc (.cells #[.slice a bs.length c, .int .i64 0, .int .i64 61043] 76)) w.heap.size (.slice a bs.length c) (.int .i64 0) (.int .i64 seed) 76 ∧ 0 ≤ seed ∧ seed < 2147483647) := ⟨61043, Box.new _ _ _ _ _, by omega, by omega⟩
  have HU := Lib.hid ((Upd.refl w).alloc (.cells #[.slice a bs.length c, .int .i64 0, .int .i64 61043] 76))
  go_enter Try.func33, Try.ntmps33
  go_wp2
  go_loopw [4] (fun i wr => ∃ k : Nat, k ≤ bs.length ∧ i = .int .i64 k ∧ Hid (∃ seed : Int, Box wr w.heap.size (.slice a bs.length c) (.int .i64 0) (.int .i64 seed) 76 ∧ 0 ≤ seed ∧ seed < 2147483647) ∧ Hid (Upd [] w wr)) (fun i _ => bs.length - (intOf i).toNat)
  case atStart => exact ⟨0, by omega, rfl, HB, HU⟩
  case round =>
    clear HB HU
    obtain ⟨k, hk, rfl, HB, HU⟩ := hrel
    obtain ⟨w3, ew3⟩ : ∃ x : World, x = wr := ⟨_, rfl⟩
    subst ew3
    have HD : Hid (DC w3 w.heap.size a c bs) := by
      obtain ⟨s, h1, h2⟩ := HB.out
      exact ⟨⟨0, s, h1, Nat.zero_le _, h2⟩, H.out _ HU.out, HA.out, hl⟩
    by_cases hlt : k < bs.length
    · by_cases h64 : k < 64
      · obtain ⟨b, off, x, rfl, hc, hx1, hx2⟩ := (H.out _ HU.out).get hlt
        obtain ⟨s, hb, hs1, hs2⟩ := HB.out
        obtain ⟨hb0, hb1, hb2⟩ := hb.cells
        have hf := hb.free 2
        have HBx := Lib.hid hb
        clear hb HB
        have ht := tmod_pos_bd (s * 83 + x) 2147483647 (by omega) (by omega)
        have i1 : (0 : Int) ≤ (k : Int) := by omega
        have i2 : (k : Int) < (bs.length : Int) := by omega
        have hw1 : IntKind.i64.wrap (s * 83) = s * 83 := IntWalk.i64_in _ (by omega)
        have hw2 : IntKind.i64.wrap (s * 83 + x) = s * 83 + x := IntWalk.i64_in _ (by omega)
        have hw3 : IntKind.i64.wrap x = x := IntWalk.i64_in _ (by omega)
        have hw4 : IntKind.i64.wrap ((s * 83 + x).tmod 2147483647) = (s * 83 + x).tmod 2147483647 := IntWalk.i64_in _ (by omega)
        clear ht
        go_wp2
        refine wp_region_still_tail 15 (by kernel_rfl) (by kernel_rfl) ?_
        simp only [List.take_succ_cons, List.take_zero, List.drop_succ_cons, List.drop_zero]
        repeat still_step
        refine wpStill_nil ?_
        change wpList _ _ _ _ _ w3.drew
        clear hw1 hw2 hw3 hw4 hb0 hb1 hb2 hf hc
        have HB4 := Lib.hid (HBx.out.kept (Upd.refl w3).drew (by simp))
        have HU4 := Lib.hid (HU.out.drew)
        generalize w3.drew = w4 at HB4 HU4 ⊢
        have hb2 := HB4.out.cells.2.2
        have hf := HB4.out.free 2
        have HN : Hid (∃ seed : Int, Box (w4.setCell ⟨w.heap.size, 2, none⟩ (.int .i64 ((s * 83 + x) % 2147483647))) w.heap.size (.slice (some ⟨b, off, none⟩) bs.length c) (.int .i64 0) (.int .i64 seed) 76 ∧ 0 ≤ seed ∧ seed < 2147483647) :=
          ⟨_, HB4.out.set2, by omega, by omega⟩
        have HUn := Lib.hid (HU4.out.setCell (p := ⟨w.heap.size, 2, none⟩) (.int .i64 ((s * 83 + x) % 2147483647)) (.inr (Nat.le_refl _)))
        go_wp2
        go_roundw
        case rel => exact ⟨k + 1, by omega, by go_num, HN, HUn⟩
        case measure => simp [intOf]; omega
      · go_wp2
        go_ret
        exact ⟨_, rfl, Nat.le_refl _, HD.out, HU.out⟩
    · obtain rfl : k = bs.length := by omega
      go_wp2
      go_ret
      exact ⟨_, rfl, Nat.le_refl _, HD.out, HU.out⟩
end Go.Proofs.Ytbjeaadnanimfaa
