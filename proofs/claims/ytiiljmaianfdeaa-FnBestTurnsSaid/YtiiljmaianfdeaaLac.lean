/- The contracts of chapter 6: flanges and lacings. -/
import Derived.Test.YtiiljmaianfdeaaLawFns
namespace Go.Proofs.Ytiiljmaianfdeaa
open Go.RowKit
set_option linter.unusedVariables false
set_option linter.unusedSimpArgs false

/-! ### Rows of bools -/
theorem infoB : (Try.prog.info? 4).map (fun i => (i.zero, i.size, i.bytes)) = some (some (.bool false), 1, 1) := by kernel_rfl
def OwnB (w : World) (B : Nat) (v : Value) (xs : List Bool) : Prop := w.ownsRow B 4 1 v xs.length (xs.map .bool)
theorem OwnB.cell {w : World} {B g c : Nat} {xs : List Bool} (h : OwnB w B (.slice (some ⟨g, 0, none⟩) xs.length c) xs) {k : Nat} {x : Bool} (hx : xs[k]? = some x) : w.cell? ⟨g, k, none⟩ = some (.bool x) := by
  have hk := get_lt hx
  rw [World.ownsRow.cellAt (w := w) h k (by simpa using hk)]
  simp [hx]
theorem OwnB.free {w : World} {B g c : Nat} {xs : List Bool} (h : OwnB w B (.slice (some ⟨g, 0, none⟩) xs.length c) xs) (k : Nat) : w.frozen? ⟨g, k, none⟩ = false := World.ownsRow.frozenAt (w := w) h k
theorem OwnB.set {w : World} {B g c n : Nat} {xs : List Bool} (hn : xs.length = n) (h : OwnB w B (.slice (some ⟨g, 0, none⟩) n c) xs) (k : Nat) (x : Bool) : OwnB (w.setCell ⟨g, k, none⟩ (.bool x)) B (.slice (some ⟨g, 0, none⟩) n c) (xs.set k x) := by
  subst hn
  have := (World.ownsRow.stored (w := w) h k (.bool x)).1
  unfold OwnB
  simpa [List.map_set] using this
section
variable {ops : Array Oper} {rest : List Oper} {o : Oper} {a : Act} {Q : Exit → Act → World → Prop}
theorem wpList_mkB {w0 w : World} (hg : o.guard = none) (l c : Operand) (hop : o.op = Op.makeSlice 72 l c) (kl kc : IntKind) (n : Nat)
    (hl : a.eval l = .int kl n) (hc : a.eval c = .int kc n) (hn : n ≤ 2097152) (hu : Upd [] w0 w)
    (h : ∀ w', OwnB w' w0.heap.size (.slice (some ⟨w.heap.size, 0, none⟩) n n) (List.replicate n false) → Upd [] w0 w' → wpList Try.prog ops Q rest (a.put o.dst (.slice (some ⟨w.heap.size, 0, none⟩) n n)) w') :
    wpList Try.prog ops Q (o :: rest) a w := by
  obtain ⟨i0, hi, hz0, hz1, hz2⟩ := info_parts infoB
  refine wpList_make_full _ hg l c 72 hop w0.heap.size 4 i0 (.bool false) 1 Try.underlying72 hi hz0 hz1 kl kc _ _ n hl hc rfl rfl (by rw [hz2]; omega) (by unfold maxLen; omega) hu.size fun w' h1 h2 => h w' ?_ (hu.grown h2 (by simp))
  have e : (madeCells (Value.bool false).cells (n * 1)).toList = List.replicate n (.bool false) := by
    rw [Nat.mul_one]; exact toList_madeCells_one _ _
  rw [e] at h1
  unfold OwnB
  simpa using h1
end

/-! ### Flanges -/
def flB (n : Int) : Bool := decide (n = 6 ∨ n = 8 ∨ n = 10 ∨ n = 12 ∨ n = 16 ∨ n = 18 ∨ n = 20 ∨ n = 24)
theorem flB_t {n : Int} (h : flB n = true) : n = 6 ∨ n = 8 ∨ n = 10 ∨ n = 12 ∨ n = 16 ∨ n = 18 ∨ n = 20 ∨ n = 24 := of_decide_eq_true h
theorem flB_bd {n : Int} (h : flB n = true) : 6 ≤ n ∧ n ≤ 24 ∧ n % 2 = 0 := by have := flB_t h; omega
theorem isFlange_c (n : Int) (w : World) : Calls Try.prog 59 #[.int .i64 n] w fun e w' => e = .returned (.bool (flB n)) ∧ w = w' := by
  cases h : flB n
  · have h1 := of_decide_eq_false h
    simp only [not_or] at h1
    obtain ⟨a1, a2, a3, a4, a5, a6, a7, a8⟩ := h1
    have b1 : (n == 6) = false := beq_eq_false_iff_ne.2 a1
    have b2 : (n == 8) = false := beq_eq_false_iff_ne.2 a2
    have b3 : (n == 10) = false := beq_eq_false_iff_ne.2 a3
    have b4 : (n == 12) = false := beq_eq_false_iff_ne.2 a4
    have b5 : (n == 16) = false := beq_eq_false_iff_ne.2 a5
    have b6 : (n == 18) = false := beq_eq_false_iff_ne.2 a6
    have b7 : (n == 20) = false := beq_eq_false_iff_ne.2 a7
    have b8 : (n == 24) = false := beq_eq_false_iff_ne.2 a8
    have H := Lib.hid h
    clear a1 a2 a3 a4 a5 a6 a7 a8 h
    go_enter Try.func59, Try.ntmps59
    go_wp2
    go_ret
    exact ⟨rfl, rfl⟩
  · have H := Lib.hid h
    have h1 := flB_t h
    clear h
    rcases h1 with rfl | rfl | rfl | rfl | rfl | rfl | rfl | rfl
    all_goals
      go_enter Try.func59, Try.ntmps59
      go_wp2
      go_ret
      exact ⟨rfl, rfl⟩
def hasB (xs : List Int) (y : Int) : Bool := decide (y ∈ xs)
theorem hasB_t {xs : List Int} {k : Nat} {y : Int} (h : xs[k]? = some y) : hasB xs y = true := decide_eq_true (mem_of_get h)
theorem l01Has_c (a : Option Addr) (c : Nat) (xs : List Int) (y : Int) (w : World) (h : IntsAt w a xs) (hl : xs.length ≤ 1048576) :
    Calls Try.prog 87 #[.slice a xs.length c, .int .i64 y] w fun e w' => e = .returned (.bool (hasB xs y)) ∧ w = w' := by
  have H := Lib.hid h; clear h
  go_enter Try.func87, Try.ntmps87
  go_wp2
  go_loop [5] (fun i => ∃ k : Nat, k ≤ xs.length ∧ i = .int .i64 k ∧ Hid (hasB (xs.take k) y = false)) (fun i => xs.length - (intOf i).toNat)
  case atStart => exact ⟨0, by omega, rfl, (by simp [hasB] : hasB ([] : List Int) y = false)⟩
  case round =>
    obtain ⟨k, hk, rfl, HA⟩ := hrel
    by_cases hlt : k < xs.length
    · obtain ⟨b, off, x, rfl, hc, hx⟩ := H.out.get hlt
      by_cases hxy : x = y
      · have HN : Hid (hasB xs y = true) := by subst hxy; exact hasB_t hx.out
        have hb : (x == y) = true := beq_iff_eq.2 hxy
        clear hxy
        go_wp2
        go_ret
        exact ⟨ret_bool HN.out.symm, rfl⟩
      · have HN : Hid (hasB (xs.take (k + 1)) y = false) := by
          show hasB _ _ = false
          have h1 := of_decide_eq_false HA.out
          rw [take_step hx.out]
          exact decide_eq_false fun hm => by
            rcases List.mem_append.1 hm with h2 | h2
            · exact h1 h2
            · simp at h2; exact hxy h2.symm
        have hb : (x == y) = false := beq_eq_false_iff_ne.2 hxy
        clear hxy
        go_wp2
        go_round
        case rel => exact ⟨k + 1, by omega, by go_num, HN⟩
        case measure => simp [intOf]; omega
    · obtain rfl : k = xs.length := by omega
      have HN : Hid (hasB xs y = false) := by have := HA.out; rwa [List.take_length] at this
      go_wp2
      go_ret
      exact ⟨ret_bool HN.out.symm, rfl⟩
theorem l01Has_n (a : Option Addr) (c n : Nat) (xs : List Int) (y : Int) (w : World) (e : xs.length = n) (h : IntsAt w a xs) (hl : n ≤ 1048576) :
    Calls Try.prog 87 #[.slice a n c, .int .i64 y] w fun e w' => e = .returned (.bool (hasB xs y)) ∧ w = w' := by
  subst e; exact l01Has_c a c xs y w h hl
theorem IntsAt.lit (w : World) (xs : List Int) : IntsAt (w.alloc (.cells (xs.map (Value.int .i64)).toArray 2)) (some ⟨w.heap.size, 0, none⟩) xs :=
  .inr ⟨w.heap.size, 0, rfl, fun k y hy => by simp [hy]⟩
def holesB (n : Int) : Bool := hasB [12, 16, 20, 24, 32, 36, 40, 48] n
theorem l04Holes_c (n : Int) (w : World) : Calls Try.prog 96 #[.int .i64 n] w fun e w' => e = .returned (.bool (holesB n)) ∧ Upd [] w w' := by
  have H := Lib.hid (IntsAt.lit w [12, 16, 20, 24, 32, 36, 40, 48])
  go_enter Try.func96, Try.ntmps96
  go_wp2_with (go_at_call 87; refine (l01Has_c _ _ [12, 16, 20, 24, 32, 36, 40, 48] _ _ H.out (by simp)).mono ?_; rintro e w' ⟨rfl, rfl⟩)
  go_ret
  exact ⟨rfl, (Upd.refl w).alloc _⟩
theorem fl_holes {n : Int} (h1 : 6 ≤ n ∧ n ≤ 24) (h2 : n % 2 = 0) : holesB (2 * n) = flB n := by
  unfold holesB hasB flB
  rw [Bool.eq_iff_iff, decide_eq_true_iff, decide_eq_true_iff]
  simp only [List.mem_cons, List.not_mem_nil, or_false]
  omega
theorem l06Holes_c (n : Int) (w : World) : Calls Try.prog 85 #[.int .i64 n] w fun e w' => e = .returned (.bool (flB n)) ∧ Upd [] w w' := by
  cases h1 : inB n 6 24
  · have HN : Hid (flB n = false) := decide_eq_false (by have := inB_f h1; omega)
    go_enter Try.func85, Try.ntmps85
    go_wp2_with (go_at_call 72; refine (l01In_c _ _ _ _).mono ?_; rintro e w' ⟨rfl, rfl⟩)
    go_ret
    exact ⟨ret_bool HN.out.symm, Upd.refl w⟩
  · have hb := inB_t h1
    by_cases h2 : n % 2 = 0
    · have hp : (n % 2 == 0) = true := beq_iff_eq.2 h2
      have HN := Lib.hid (fl_holes hb h2)
      clear h2
      go_enter Try.func85, Try.ntmps85
      go_wp2_with (first | (go_at_call 72; refine (l01In_c _ _ _ _).mono ?_; rintro e w' ⟨rfl, rfl⟩) | (go_at_call 96; refine (l04Holes_c _ _).mono ?_; rintro e w1 ⟨rfl, hU⟩; have HU := Lib.hid hU; clear hU))
      go_ret
      exact ⟨ret_bool HN.out, HU.out⟩
    · have hp : (n % 2 == 0) = false := beq_eq_false_iff_ne.2 h2
      have HN : Hid (flB n = false) := decide_eq_false (by omega)
      clear h2
      go_enter Try.func85, Try.ntmps85
      go_wp2_with (go_at_call 72; refine (l01In_c _ _ _ _).mono ?_; rintro e w' ⟨rfl, rfl⟩)
      go_ret
      exact ⟨ret_bool (by first | exact HN.out.symm | (rw [HN.out]; exact hp)), Upd.refl w⟩

/-! ### Lacings -/
/-- The rest of a list fits behind what has been seen. -/
def lacAux (n : Int) : List Int → List Int → Bool
  | _, [] => true
  | s, x :: t => inB x 0 (n - 1) && !hasB s x && lacAux n (s ++ [x]) t
def lacB (n : Int) (xs : List Int) : Bool := flB n && decide ((xs.length : Int) = n) && lacAux n [] xs
theorem lacAux_cons {n : Int} {xs : List Int} {k : Nat} {x : Int} (h : xs[k]? = some x) : lacAux n (xs.take k) (xs.drop k) = (inB x 0 (n - 1) && !hasB (xs.take k) x && lacAux n (xs.take (k + 1)) (xs.drop (k + 1))) := by
  rw [List.drop_eq_getElem_cons (get_lt h), (List.getElem?_eq_some_iff.1 h).2, lacAux, take_step h]
set_option maxHeartbeats 400000 in
theorem sIsLacing_c (n : Int) (a : Option Addr) (c : Nat) (xs : List Int) (w : World) (h : IntsAt w a xs) (hl : xs.length ≤ 1048576) (hcap : xs.length ≤ c) :
    Calls Try.prog 56 #[.int .i64 n, .slice a xs.length c] w fun e w' => e = .returned (.bool (lacB n xs)) ∧ Upd [] w w' := by
  have H : Hid (∀ w', Upd [] w w' → IntsAt w' a xs) := fun w' u => h.kept0 u
  clear h
  cases h1 : flB n
  · have HN : Hid (lacB n xs = false) := by show lacB _ _ = _; simp [lacB, h1]
    go_enter Try.func56, Try.ntmps56
    go_wp2_with (go_at_call 85; refine (l06Holes_c _ _).mono ?_; rintro e w1 ⟨rfl, hU⟩; have HU := Lib.hid hU; clear hU)
    go_ret
    exact ⟨ret_bool HN.out.symm, HU.out⟩
  · by_cases h2 : (xs.length : Int) = n
    · subst h2
      have hb := flB_bd h1
      have HN : Hid (lacB xs.length xs = lacAux xs.length (xs.take 0) (xs.drop 0)) := by show lacB _ _ = _; simp [lacB, h1]
      go_enter Try.func56, Try.ntmps56
      go_wp2_with (go_at_call 85; refine (l06Holes_c _ _).mono ?_; rintro e w1 ⟨rfl, hU⟩; have HU0 := Lib.hid hU; clear hU)
      go_loopw [5] (fun i wr => ∃ k : Nat, k ≤ xs.length ∧ i = .int .i64 k ∧ Hid (lacB xs.length xs = lacAux xs.length (xs.take k) (xs.drop k)) ∧ Hid (Upd [] w wr)) (fun i _ => xs.length - (intOf i).toNat)
      case atStart => exact ⟨0, by omega, rfl, HN, HU0⟩
      case round =>
        clear HN HU0
        obtain ⟨k, hk, rfl, HL, HU⟩ := hrel
        by_cases hlt : k < xs.length
        · obtain ⟨b, off, x, rfl, hc, hx⟩ := (H.out _ HU.out).get hlt
          have HC := Lib.hid (lacAux_cons (n := xs.length) hx.out)
          have i1 : (0 : Int) ≤ (k : Int) := by omega
          have i2 : (k : Int) < (xs.length : Int) := by omega
          have HT : Hid (∀ w', Upd [] w w' → IntsAt w' (some ⟨b, off, none⟩) (xs.take k)) := fun w' u => (H.out w' u).take
          have HTL : Hid ((xs.take k).length = k) := by show _ = _; rw [List.length_take]; omega
          cases h3 : inB x 0 ((xs.length : Int) - 1)
          · have HF : Hid (lacB xs.length xs = false) := by show lacB _ _ = _; rw [HL.out, HC.out, h3]; rfl
            have hw1 : IntKind.i64.wrap ((xs.length : Int) - 1) = (xs.length : Int) - 1 := IntWalk.i64_in _ (by omega)
            go_wp2
            go_quiet ((go_at_call 72; exact quiet0 (l01In_c _ _ _ _)))
            clear hw1
            go_wp2
            go_ret
            exact ⟨ret_bool HF.out.symm, (HU.out).drewN _⟩
          · cases h4 : hasB (xs.take k) x
            · have HF : Hid (lacB xs.length xs = lacAux xs.length (xs.take (k + 1)) (xs.drop (k + 1))) := by show lacB _ _ = _; rw [HL.out, HC.out, h3, h4]; rfl
              have hw1 : IntKind.i64.wrap ((xs.length : Int) - 1) = (xs.length : Int) - 1 := IntWalk.i64_in _ (by omega)
              go_wp2
              go_quiet ((first | (go_at_call 72; exact quiet0 (l01In_c _ _ _ _)) | (go_at_call 87; go_loud (exact quiet0 (l01Has_n _ _ k (xs.take k) _ _ HTL.out (HT.out _ ((HU.out).drewN _)) (by omega))))))
              clear hw1
              go_wp2
              go_roundw
              case rel => exact ⟨k + 1, by omega, by go_num, HF, (HU.out).drewN _⟩
              case measure => simp [intOf]; omega
            · have HF : Hid (lacB xs.length xs = false) := by show lacB _ _ = _; rw [HL.out, HC.out, h3, h4]; rfl
              have hw1 : IntKind.i64.wrap ((xs.length : Int) - 1) = (xs.length : Int) - 1 := IntWalk.i64_in _ (by omega)
              go_wp2
              go_quiet ((first | (go_at_call 72; exact quiet0 (l01In_c _ _ _ _)) | (go_at_call 87; go_loud (exact quiet0 (l01Has_n _ _ k (xs.take k) _ _ HTL.out (HT.out _ ((HU.out).drewN _)) (by omega))))))
              clear hw1
              go_wp2
              go_ret
              exact ⟨ret_bool HF.out.symm, (HU.out).drewN _⟩
        · obtain rfl : k = xs.length := by omega
          have HF : Hid (lacB xs.length xs = true) := by show lacB _ _ = _; rw [HL.out, List.drop_length]; rfl
          go_wp2
          go_ret
          exact ⟨ret_bool HF.out.symm, HU.out⟩
    · have HN : Hid (lacB n xs = false) := by show lacB _ _ = _; simp [lacB, h2]
      have hne : ((xs.length : Int) != n) = true := by rw [bne_iff_ne]; exact h2
      go_enter Try.func56, Try.ntmps56
      go_wp2_with (go_at_call 85; refine (l06Holes_c _ _).mono ?_; rintro e w1 ⟨rfl, hU⟩; have HU := Lib.hid hU; clear hU)
      all_goals go_ret
      all_goals exact ⟨ret_bool HN.out.symm, HU.out⟩
/-- The row of bools says which numbers have been seen. -/
def Seen (w : World) (B g c : Nat) (xs : List Int) (n k : Nat) : Prop :=
  ∃ bs : List Bool, bs.length = n ∧ OwnB w B (.slice (some ⟨g, 0, none⟩) n c) bs ∧ ∀ j : Nat, j < n → bs[j]? = some (hasB (xs.take k) (j : Int))
set_option maxHeartbeats 400000 in
theorem iIsLacing_c (n : Int) (a : Option Addr) (c : Nat) (xs : List Int) (w : World) (h : IntsAt w a xs) (hl : xs.length ≤ 1048576) :
    Calls Try.prog 20 #[.int .i64 n, .slice a xs.length c] w fun e w' => e = .returned (.bool (lacB n xs)) ∧ Upd [] w w' := by
  have H : Hid (∀ w', Upd [] w w' → IntsAt w' a xs) := fun w' u => h.kept0 u
  clear h
  cases h1 : flB n
  · have HN : Hid (lacB n xs = false) := by show lacB _ _ = _; simp [lacB, h1]
    go_enter Try.func20, Try.ntmps20
    go_wp2_with (go_at_call 59; refine (isFlange_c _ _).mono ?_; rintro e w' ⟨rfl, rfl⟩)
    go_ret
    exact ⟨ret_bool HN.out.symm, Upd.refl w⟩
  · by_cases h2 : (xs.length : Int) = n
    · subst h2
      have hb := flB_bd h1
      have HN : Hid (lacB xs.length xs = lacAux xs.length (xs.take 0) (xs.drop 0)) := by show lacB _ _ = _; simp [lacB, h1]
      go_enter Try.func20, Try.ntmps20
      go_wp2_with (first | (go_at_call 59; refine (isFlange_c _ _).mono ?_; rintro e w' ⟨rfl, rfl⟩) | (at_make; refine wpList_mkB rfl _ _ rfl .i64 .i64 xs.length rfl rfl (by omega) (Upd.refl w) ?_; intro w1 h1 h2; have HO := Lib.hid h1; have HU0 := Lib.hid h2; clear h1 h2))
      have HS : Hid (Seen w1 w.heap.size w.heap.size xs.length xs xs.length 0) := ⟨_, by simp, HO.out, fun j hj => by simp [hasB, hj]⟩
      clear HO
      go_loopw [21] (fun i wr => ∃ k : Nat, k ≤ xs.length ∧ i = .int .i64 k ∧ Hid (lacB xs.length xs = lacAux xs.length (xs.take k) (xs.drop k)) ∧ Hid (Seen wr w.heap.size w.heap.size xs.length xs xs.length k) ∧ Hid (Upd [] w wr)) (fun i _ => xs.length - (intOf i).toNat)
      case atStart => exact ⟨0, by omega, rfl, HN, HS, HU0⟩
      case round =>
        clear HN HU0 HS
        obtain ⟨k, hk, rfl, HL, HS, HU⟩ := hrel
        by_cases hlt : k < xs.length
        · obtain ⟨b, off, x, rfl, hc, hx⟩ := (H.out _ HU.out).get hlt
          have HC := Lib.hid (lacAux_cons (n := xs.length) hx.out)
          cases h3 : inB x 0 ((xs.length : Int) - 1)
          · have HF : Hid (lacB xs.length xs = false) := by show lacB _ _ = _; rw [HL.out, HC.out, h3]; rfl
            go_wp2_with (go_at_call 51; refine (within_c _ _ _ _).mono ?_; rintro e w' ⟨rfl, rfl⟩)
            go_ret
            exact ⟨ret_bool HF.out.symm, HU.out⟩
          · have hx1 := inB_t h3
            obtain ⟨j, rfl⟩ := Int.eq_ofNat_of_zero_le hx1.1
            have hj : j < xs.length := by omega
            obtain ⟨bs, s1, s2, s3⟩ := HS.out
            have i1 : (j : Int) < (xs.length : Int) := by omega
            cases h4 : hasB (xs.take k) (j : Int)
            · have HF : Hid (lacB xs.length xs = lacAux xs.length (xs.take (k + 1)) (xs.drop (k + 1))) := by show lacB _ _ = _; rw [HL.out, HC.out, h3, h4]; rfl
              have hcb : wr.cell? ⟨w.heap.size, j, none⟩ = some (.bool false) := by
                have := s3 j hj; rw [h4] at this
                rw [← s1] at s2
                exact s2.cell this
              have hfb : wr.frozen? ⟨w.heap.size, j, none⟩ = false := by rw [← s1] at s2; exact s2.free j
              have HS2 : Hid (Seen (wr.setCell ⟨w.heap.size, j, none⟩ (.bool true)) w.heap.size w.heap.size xs.length xs xs.length (k + 1)) := by
                refine ⟨bs.set j true, by simp [s1], s2.set s1 j true, fun i hi => ?_⟩
                rw [List.getElem?_set, take_step hx.out]
                by_cases e : j = i
                · subst e; rw [if_pos rfl, if_pos (by omega)]; simp [hasB]
                · rw [if_neg e, s3 i hi]
                  congr 1
                  unfold hasB
                  rw [Bool.eq_iff_iff, decide_eq_true_iff, decide_eq_true_iff, List.mem_append]
                  constructor
                  · exact .inl
                  · rintro (h | h)
                    · exact h
                    · simp at h; omega
              have HU2 : Hid (Upd [] w (wr.setCell ⟨w.heap.size, j, none⟩ (.bool true))) := (HU.out).setCell _ (.inr (Nat.le_refl _))
              clear s1 s2 s3 HS
              go_wp2_with (go_at_call 51; refine (within_c _ _ _ _).mono ?_; rintro e w' ⟨rfl, rfl⟩)
              go_roundw
              case rel => exact ⟨k + 1, by omega, by go_num, HF, HS2, HU2⟩
              case measure => simp [intOf]; omega
            · have HF : Hid (lacB xs.length xs = false) := by show lacB _ _ = _; rw [HL.out, HC.out, h3, h4]; rfl
              have hcb : wr.cell? ⟨w.heap.size, j, none⟩ = some (.bool true) := by
                have := s3 j hj; rw [h4] at this
                rw [← s1] at s2
                exact s2.cell this
              clear s1 s2 s3 HS
              go_wp2_with (go_at_call 51; refine (within_c _ _ _ _).mono ?_; rintro e w' ⟨rfl, rfl⟩)
              go_ret
              exact ⟨ret_bool HF.out.symm, HU.out⟩
        · obtain rfl : k = xs.length := by omega
          have HF : Hid (lacB xs.length xs = true) := by show lacB _ _ = _; rw [HL.out, List.drop_length]; rfl
          go_wp2
          go_ret
          exact ⟨ret_bool HF.out.symm, HU.out⟩
    · have HN : Hid (lacB n xs = false) := by show lacB _ _ = _; simp [lacB, h2]
      have hne : ((xs.length : Int) != n) = true := by rw [bne_iff_ne]; exact h2
      go_enter Try.func20, Try.ntmps20
      go_wp2_with (go_at_call 59; refine (isFlange_c _ _).mono ?_; rintro e w' ⟨rfl, rfl⟩)
      all_goals go_ret
      all_goals exact ⟨ret_bool HN.out.symm, Upd.refl w⟩
end Go.Proofs.Ytiiljmaianfdeaa
