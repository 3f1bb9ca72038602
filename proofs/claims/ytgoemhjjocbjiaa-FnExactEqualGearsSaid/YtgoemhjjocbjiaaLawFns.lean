/- The contracts of the laws' own helpers over slices: copy, compare, mark, look at the marks. -/
import Derived.Test.YtgoemhjjocbjiaaApp
namespace Go.Proofs.Ytgoemhjjocbjiaa
open Go.RowKit
set_option linter.unusedVariables false
set_option linter.unusedSimpArgs false

theorem OwnI.ints {w : World} {B n c : Nat} {a : Option Addr} {xs : List Int} (h : OwnI w B (.slice a n c) xs) : IntsAt w a xs := by
  obtain ⟨a', c', e, hi, -⟩ := h.intsAt
  simp only [Value.slice.injEq] at e
  rw [e.1]; exact hi
/-- What lies in another block is kept. -/
theorem OwnI.apart {w w' : World} {B lx ux ly uy : Nat} {vx v : Value} {xs : List Int} (h : OwnI w B v xs) (u : Upd vx.ownBlock.toList w w') (hx : ∀ k, vx.ownBlock = some k → lx ≤ k ∧ k < ux)
    (hy : ∀ k, v.ownBlock = some k → ly ≤ k ∧ k < uy) (d : uy ≤ lx ∨ ux ≤ ly) : OwnI w' B v xs :=
  h.keptNe u fun k hk hm => by
    have h1 := hy k hk
    have h2 := hx k (by simpa using hm)
    omega
theorem Upd.afterOwn {a b c : World} {v : Value} (h : Upd [] a b) (k : Upd v.ownBlock.toList b c) (hh : ∀ x, v.ownBlock = some x → a.heap.size ≤ x) : Upd [] a c :=
  h.after0 k fun x hx => hh x (by simpa using hx)
/-- A slice as the rows give it reads as a list. -/
theorem row_ints {w : World} {a : Option Addr} {len cap : Nat} {z : List Int}
    (h : (a = none ∧ len = 0 ∧ cap = 0 ∧ z = []) ∨ ∃ x, a = some x ∧ len ≤ cap ∧ cap ≤ maxLen ∧ z.length = cap ∧ (∀ i, i < z.length → w.cell? (x.add i) = some (.int .i64 (z.getD i 0))) ∧ ∀ n ∈ z, (Lit.int .i64 n).wf = true) :
    IntsAt w a (z.take len) ∧ (z.take len).length = len := by
  rcases h with ⟨rfl, rfl, rfl, rfl⟩ | ⟨x, rfl, h1, h2, h3, h4, -⟩
  · exact ⟨.inl rfl, rfl⟩
  · have hl : (z.take len).length = len := by rw [List.length_take]; omega
    refine ⟨?_, hl⟩
    by_cases h0 : len = 0
    · subst h0; exact .inl (by simp)
    · obtain ⟨b, off, spot⟩ := x
      have hs : spot = none := by
        cases spot with
        | none => rfl
        | some s =>
          have := h4 0 (by omega)
          simp only [World.cell?, Addr.add] at this
          revert this
          split <;> simp
      subst hs
      refine .inr ⟨b, off, rfl, fun k y hy => ?_⟩
      have hk := get_lt hy
      have h5 := h4 k (by omega)
      rw [Addr.add_lit] at h5
      rw [h5]
      rw [List.getElem?_take] at hy
      split at hy
      · rw [List.getD_eq_getElem?_getD, hy]; rfl
      · simp at hy
set_option maxHeartbeats 400000 in
theorem toInt64S_c (a : Option Addr) (c : Nat) (xs : List Int) (w : World) (h : IntsAt w a xs) (hl : xs.length ≤ 1048576) :
    Calls Try.prog 54 #[.slice a xs.length c] w (NewI w xs) := by
  obtain ⟨i0, hi, hz0, hz1, hz2⟩ := info_parts infoI
  have H := Lib.hid h; clear h
  go_enter Try.func54, Try.ntmps54
  go_wp2_with (at_make; refine wpList_make_full _ rfl _ _ 22 rfl w.heap.size 2 i0 (.int .i64 0) 1 Try.underlying22 hi hz0 hz1 .i64 .i64 _ _ xs.length rfl rfl rfl rfl (by rw [hz2]; omega) (by unfold maxLen; omega) (Nat.le_refl _) ?_; intro w1 hown hgrow)
  have HO : Hid (∃ ys : List Int, ys.length = xs.length ∧ OwnI w1 w.heap.size (.slice (some ⟨w.heap.size, 0, none⟩) xs.length xs.length) ys ∧ ∀ j, j < 0 → ys[j]? = xs[j]?) :=
    ⟨List.replicate xs.length 0, by simp, OwnI.made hown, fun j hj => by omega⟩
  have HU : Hid (Upd [] w w1) := (Upd.refl w).grown hgrow (by simp)
  clear hown hgrow
  go_loopw [4] (fun i wr => ∃ k : Nat, k ≤ xs.length ∧ i = .int .i64 k ∧ Hid (∃ ys : List Int, ys.length = xs.length ∧ OwnI wr w.heap.size (.slice (some ⟨w.heap.size, 0, none⟩) xs.length xs.length) ys ∧ ∀ j, j < k → ys[j]? = xs[j]?) ∧ Hid (Upd [] w wr))
    (fun i _ => xs.length - (intOf i).toNat)
  case atStart => exact ⟨0, by omega, rfl, HO, HU⟩
  case round =>
    obtain ⟨k, hk, rfl, HO, HU⟩ := hrel
    by_cases hlt : k < xs.length
    · obtain ⟨b, off, x, rfl, hc, hx⟩ := (IntsAt.kept0 H.out HU.out).get hlt
      obtain ⟨ys, hy1, hy2, hy3⟩ := HO.out
      have hkl : k < ys.length := by omega
      have hc2 := hy2.cell (List.getElem?_eq_getElem hkl)
      have hf2 := hy2.free k
      have HN : Hid (∃ zs : List Int, zs.length = xs.length ∧ OwnI (wr.setCell ⟨w.heap.size, k, none⟩ (.int .i64 x)) w.heap.size (.slice (some ⟨w.heap.size, 0, none⟩) xs.length xs.length) zs ∧ ∀ j, j < k + 1 → zs[j]? = xs[j]?) := by
        refine ⟨ys.set k x, by simp [hy1], hy2.set k x hkl, fun j hj => ?_⟩
        rw [List.getElem?_set]
        by_cases e : k = j
        · subst e; rw [if_pos rfl, if_pos hkl]; exact hx.out.symm
        · rw [if_neg e]; exact hy3 j (by omega)
      have HU2 : Hid (Upd [] w (wr.setCell ⟨w.heap.size, k, none⟩ (.int .i64 x))) := (HU.out).setCell _ (.inr (Nat.le_refl _))
      clear hy1 hy2 hy3
      go_wp2
      go_roundw
      case rel => exact ⟨k + 1, by omega, by go_num, HN, HU2⟩
      case measure => simp [intOf]; omega
    · obtain rfl : k = xs.length := by omega
      go_wp2
      go_ret
      obtain ⟨ys, hy1, hy2, hy3⟩ := HO.out
      obtain rfl : ys = xs := ext_get hy1 hy3
      exact ⟨_, rfl, hy2, HU.out⟩
/-- True is returned; nothing has turned. -/
def RetT (w : World) (e : Ending) (w' : World) : Prop := e = .returned (.bool true) ∧ Upd [] w w'
set_option maxHeartbeats 400000 in
theorem eqInt64S_c (a b : Option Addr) (c d : Nat) (xs : List Int) (w : World) (h : IntsAt w a xs) (h2 : IntsAt w b xs) (hl : xs.length ≤ 1048576) :
    Calls Try.prog 30 #[.slice a xs.length c, .slice b xs.length d] w (RetT w) := by
  have H := Lib.hid h; clear h
  have H2 := Lib.hid h2; clear h2
  go_enter Try.func30, Try.ntmps30
  go_wp2
  go_loopw [5] (fun i wr => ∃ k : Nat, k ≤ xs.length ∧ i = .int .i64 k ∧ Hid (Upd [] w wr)) (fun i _ => xs.length - (intOf i).toNat)
  case atStart => exact ⟨0, by omega, rfl, Upd.refl w⟩
  case round =>
    obtain ⟨k, hk, rfl, HU⟩ := hrel
    by_cases hlt : k < xs.length
    · obtain ⟨ab, ao, x, rfl, hc, hx⟩ := (H.out.kept0 HU.out).get hlt
      obtain ⟨bb, bo, y, rfl, hd, hy⟩ := (H2.out.kept0 HU.out).get hlt
      obtain rfl : x = y := by have := hx.out; rw [hy.out] at this; simpa using this.symm
      have i1 : (0 : Int) ≤ (k : Int) := by omega
      have i2 : (k : Int) < (xs.length : Int) := by omega
      go_wp2
      go_quiet (fail)
      go_wp2
      go_roundw
      case rel => exact ⟨k + 1, by omega, by go_num, (HU.out).drewN _⟩
      case measure => simp [intOf]; omega
    · obtain rfl : k = xs.length := by omega
      go_wp2
      go_ret
      exact ⟨rfl, HU.out⟩
/-- The marks have been written into the slice; nothing else has turned. -/
def Marked (w : World) (B : Nat) (v : Value) (k : Int) (n : Nat) (e : Ending) (w' : World) : Prop :=
  e = .returned (.int .i64 (k + n)) ∧ OwnI w' B v (marks k n) ∧ Upd v.ownBlock.toList w w'
set_option maxHeartbeats 400000 in
theorem markInt64S_c (v : Value) (B : Nat) (k0 : Int) (xs : List Int) (w : World) (h : OwnI w B v xs) (hl : xs.length ≤ 1048576) (hk : 0 ≤ k0 ∧ k0 ≤ 1000000000000) :
    Calls Try.prog 32 #[v, .int .i64 k0] w (Marked w B v k0 xs.length) := by
  by_cases hne : 0 < xs.length
  · obtain ⟨g, c, rfl, hg1, hg2⟩ := h.row hne
    have HO : Hid (∃ ys : List Int, ys.length = xs.length ∧ OwnI w B (.slice (some ⟨g, 0, none⟩) xs.length c) ys ∧ ∀ j : Nat, j < 0 → ys[j]? = some (k0 + j)) :=
      ⟨xs, rfl, h, fun j hj => by omega⟩
    have HU : Hid (Upd [g] w w) := (Upd.refl w).mono (by simp)
    clear h
    go_enter Try.func32, Try.ntmps32
    go_wp2
    go_loopw [1, 5] (fun m i wr => ∃ k : Nat, k ≤ xs.length ∧ m = .int .i64 (k0 + k) ∧ i = .int .i64 k ∧ Hid (∃ ys : List Int, ys.length = xs.length ∧ OwnI wr B (.slice (some ⟨g, 0, none⟩) xs.length c) ys ∧ ∀ j : Nat, j < k → ys[j]? = some (k0 + j)) ∧ Hid (Upd [g] w wr))
      (fun _ i _ => xs.length - (intOf i).toNat)
    case atStart => exact ⟨0, by omega, by simp, rfl, HO, HU⟩
    case round =>
      obtain ⟨k, hk', rfl, rfl, HO, HU⟩ := hrel
      by_cases hlt : k < xs.length
      · obtain ⟨ys, hy1, hy2, hy3⟩ := HO.out
        have hkl : k < ys.length := by omega
        have hc2 := hy2.cell (List.getElem?_eq_getElem hkl)
        have hf2 := hy2.free k
        have HN : Hid (∃ zs : List Int, zs.length = xs.length ∧ OwnI (wr.setCell ⟨g, k, none⟩ (.int .i64 (k0 + k))) B (.slice (some ⟨g, 0, none⟩) xs.length c) zs ∧ ∀ j : Nat, j < k + 1 → zs[j]? = some (k0 + j)) := by
          refine ⟨ys.set k (k0 + k), by simp [hy1], hy2.set k _ hkl, fun j hj => ?_⟩
          rw [List.getElem?_set]
          by_cases e : k = j
          · subst e; rw [if_pos rfl, if_pos hkl]
          · rw [if_neg e]; exact hy3 j (by omega)
        have HU2 : Hid (Upd [g] w (wr.setCell ⟨g, k, none⟩ (.int .i64 (k0 + k)))) := (HU.out).setCell _ (.inl (by simp))
        clear hy1 hy2 hy3
        go_wp2
        go_roundw
        case rel => exact ⟨k + 1, by omega, by go_num, by go_num, HN, HU2⟩
        case measure => simp [intOf]; omega
      · obtain rfl : k = xs.length := by omega
        go_wp2
        go_ret
        obtain ⟨ys, hy1, hy2, hy3⟩ := HO.out
        obtain rfl : ys = marks k0 xs.length := ext_get (by rw [marks_length]; exact hy1) fun j hj => by rw [marks_length] at hj; rw [hy3 j hj, marks_get _ _ _ hj]
        exact ⟨rfl, hy2, HU.out⟩
  · have h0 : xs.length = 0 := by omega
    obtain rfl := List.eq_nil_of_length_eq_zero h0
    obtain ⟨a, c, rfl, hi, -⟩ := h.intsAt
    have HO := Lib.hid h
    clear h
    go_enter Try.func32, Try.ntmps32
    go_wp2
    go_loop [1, 5] (fun m i => m = .int .i64 k0 ∧ i = .int .i64 0) (fun _ i => 0)
    case atStart => exact ⟨rfl, rfl⟩
    case round =>
      obtain ⟨rfl, rfl⟩ := hrel
      go_wp2
      go_ret
      exact ⟨by simp, HO.out, (Upd.refl w).mono (by simp)⟩
set_option maxHeartbeats 400000 in
theorem heldInt64S_c (a : Option Addr) (c n : Nat) (k0 : Int) (w : World) (h : IntsAt w a (marks k0 n)) (hl : n ≤ 1048576) (hk : 0 ≤ k0 ∧ k0 ≤ 1000000000000) :
    Calls Try.prog 33 #[.slice a n c, .int .i64 k0] w fun e w' => e = .returned (.int .i64 (k0 + n)) ∧ w = w' := by
  have H := Lib.hid h; clear h
  go_enter Try.func33, Try.ntmps33
  go_wp2
  go_loop [1, 5] (fun m i => ∃ k : Nat, k ≤ n ∧ m = .int .i64 (k0 + k) ∧ i = .int .i64 k) (fun _ i => n - (intOf i).toNat)
  case atStart => exact ⟨0, by omega, by simp, rfl⟩
  case round =>
    obtain ⟨k, hk', rfl, rfl⟩ := hrel
    by_cases hlt : k < n
    · obtain ⟨ab, ao, x, rfl, hc, hx⟩ := H.out.get (k := k) (by rw [marks_length]; exact hlt)
      obtain rfl : x = k0 + k := by have := hx.out; rw [marks_get _ _ _ hlt] at this; simpa using this.symm
      go_wp2
      go_round
      case rel => exact ⟨k + 1, by omega, by go_num, by go_num⟩
      case measure => simp [intOf]; omega
    · obtain rfl : k = n := by omega
      go_wp2
      go_ret
      exact ⟨rfl, rfl⟩
end Go.Proofs.Ytgoemhjjocbjiaa
