/- The contracts of chapter 6: moves, mirrored lacings. -/
import Derived.Test.YtiiljmaianfdeaaLac3
namespace Go.Proofs.Ytiiljmaianfdeaa
open Go.RowKit
set_option linter.unusedVariables false
set_option linter.unusedSimpArgs false

/-! ### Moves -/
def mvF (a b : List Int) (k : Nat) : List Int := if a.getD k 0 = b.getD k 0 then [] else [(k : Int)]
def mvTo (a b : List Int) (k : Nat) : List Int := upTo (mvF a b) k
theorem mvF_le (a b : List Int) (k : Nat) : (mvF a b k).length ≤ 1 := by unfold mvF; split <;> simp
theorem mvTo_le (a b : List Int) (k : Nat) : (mvTo a b k).length ≤ k := upTo_le (mvF_le a b) k
def mvL (n : Int) (a b : List Int) : List Int := if lacB n a && lacB n b then mvTo a b a.length else []
def mvE (n : Int) (a b : List Int) : Int := if lacB n a && lacB n b then 0 else 1
set_option maxHeartbeats 800000 in
theorem iMovesBetween_c (n : Int) (a b : Option Addr) (c d : Nat) (xs ys : List Int) (w : World) (h : IntsAt w a xs) (h' : IntsAt w b ys) (hl : xs.length ≤ 1048576) (hl2 : ys.length ≤ 1048576) :
    Calls Try.prog 14 #[.int .i64 n, .slice a xs.length c, .slice b ys.length d] w (NewIC w (mvL n xs ys) (mvE n xs ys)) := by
  have H := Lib.hid (show _ ∧ _ from ⟨h, h'⟩); clear h h'
  cases h1 : lacB n xs
  · have HE : Hid (mvL n xs ys = [] ∧ mvE n xs ys = 1) := by constructor <;> simp [mvL, mvE, h1]
    go_enter Try.func14, Try.ntmps14
    go_wp2_with fail
    refine (iIsLacing_c _ _ _ _ _ H.out.1 hl).mono ?_
    rintro e w1 ⟨rfl, hU⟩
    have HU1 := Lib.hid hU
    clear hU
    go_wp2_with fail
    go_ret2
    rw [HE.out.1, HE.out.2]
    exact ⟨_, rfl, OwnI.nil _ _, HU1.out⟩
  · go_enter Try.func14, Try.ntmps14
    go_wp2_with fail
    refine (iIsLacing_c _ _ _ _ _ H.out.1 hl).mono ?_
    rintro e w1 ⟨rfl, hU⟩
    have HU1 := Lib.hid hU
    clear hU
    go_wp2_with fail
    refine (iIsLacing_c _ _ _ _ _ (H.out.2.kept0 HU1.out) hl2).mono ?_
    rintro e w2 ⟨rfl, hU⟩
    have HU2 := Lib.hid (HU1.out.then0 hU)
    clear hU
    cases h2 : lacB n ys
    · have HE : Hid (mvL n xs ys = [] ∧ mvE n xs ys = 1) := by constructor <;> simp [mvL, mvE, h2]
      go_wp2_with fail
      go_ret2
      rw [HE.out.1, HE.out.2]
      exact ⟨_, rfl, OwnI.nil _ _, HU2.out⟩
    · have HE : Hid (mvL n xs ys = mvTo xs ys xs.length ∧ mvE n xs ys = 0) := by constructor <;> simp [mvL, mvE, h1, h2]
      obtain ⟨hn, hb, hx⟩ := lac_bd h1
      obtain ⟨hn2, -, -⟩ := lac_bd h2
      have hle : (ys.length : Int) ≤ xs.length ∧ (xs.length : Int) ≤ ys.length := by omega
      subst hn
      clear hx hn2 h1 h2
      go_wp2_with fail
      go_loopw [8, 22] (fun v i wr => ∃ k : Nat, k ≤ xs.length ∧ i = .int .i64 k ∧ Hid (OwnI wr w.heap.size v (mvTo xs ys k)) ∧ Hid (Upd [] w wr)) (fun _ i _ => xs.length - (intOf i).toNat)
      case atStart => exact ⟨0, by omega, rfl, OwnI.nil _ _, HU2.out⟩
      case round =>
        clear HU1 HU2
        obtain ⟨k, hk, rfl, HO, HU⟩ := hrel
        by_cases hlt : k < xs.length
        · obtain ⟨bb, off, x, rfl, hc, hx⟩ := (H.out.1.kept0 HU.out).get hlt
          obtain ⟨bb2, off2, y, rfl, hc2, hy⟩ := (H.out.2.kept0 HU.out).get (k := k) (by omega)
          have HL := mvTo_le xs ys k
          have i1 : (0 : Int) ≤ (k : Int) := by omega
          have i2 : (k : Int) < (xs.length : Int) := by omega
          have i3 : (k : Int) < (ys.length : Int) := by omega
          have HOD : Hid (∀ nq, OwnI (wr.drewN nq) w.heap.size u8 (mvTo xs ys k) ∧ Upd [] w (wr.drewN nq)) := fun nq => ⟨HO.out.kept0 ((Upd.refl wr).drewN nq), (HU.out).drewN nq⟩
          by_cases hxy : x = y
          · have HN : Hid (mvTo xs ys (k + 1) = mvTo xs ys k) := by
              show mvTo _ _ _ = _; rw [mvTo, upTo, mvF, getD_of hx.out, getD_of hy.out, if_pos hxy, List.append_nil]; rfl
            subst hxy
            go_wp2
            go_quiet (fail)
            go_wp2
            go_roundw
            case rel => exact ⟨k + 1, by omega, by go_num, by rw [HN.out]; exact (HOD.out _).1, (HOD.out _).2⟩
            case measure => simp [intOf]; omega
          · have HN : Hid (mvTo xs ys (k + 1) = mvTo xs ys k ++ [(k : Int)]) := by
              show mvTo _ _ _ = _; rw [mvTo, upTo, mvF, getD_of hx.out, getD_of hy.out, if_neg hxy]; rfl
            have hne : (x != y) = true := by rw [bne_iff_ne]; exact hxy
            clear hxy
            go_wp2
            go_quiet (fail)
            have HX := Lib.hid (HOD.out nq)
            clear HOD HO HU hc hc2
            generalize wr.drewN nq = w4 at HX ⊢
            go_wp2_with (at_builtin; refine wpList_appI rfl _ _ rfl _ _ _ rfl rfl HX.out.1 HX.out.2 (by omega) ?_; intro v' w1 h1 h2; have H1 := Lib.hid h1; have H2 := Lib.hid h2; clear h1 h2)
            go_roundw
            case rel => exact ⟨k + 1, by omega, by go_num, by rw [HN.out]; exact H1, H2⟩
            case measure => simp [intOf]; omega
        · obtain rfl : k = xs.length := by omega
          go_wp2
          go_ret2
          rw [HE.out.1, HE.out.2]
          exact ⟨_, rfl, HO.out, HU.out⟩
set_option maxHeartbeats 800000 in
theorem sMovesBetween_c (n : Int) (a b : Option Addr) (c d : Nat) (xs ys : List Int) (w : World) (h : IntsAt w a xs) (h' : IntsAt w b ys) (hl : xs.length ≤ 1048576) (hl2 : ys.length ≤ 1048576) (hcap : xs.length ≤ c) (hcap2 : ys.length ≤ d) :
    Calls Try.prog 15 #[.int .i64 n, .slice a xs.length c, .slice b ys.length d] w (NewIC w (mvL n xs ys) (mvE n xs ys)) := by
  have H := Lib.hid (show _ ∧ _ from ⟨h, h'⟩); clear h h'
  cases h1 : lacB n xs
  · have HE : Hid (mvL n xs ys = [] ∧ mvE n xs ys = 1) := by constructor <;> simp [mvL, mvE, h1]
    go_enter Try.func15, Try.ntmps15
    go_wp2_with fail
    refine (sIsLacing_c _ _ _ _ _ H.out.1 hl hcap).mono ?_
    rintro e w1 ⟨rfl, hU⟩
    have HU1 := Lib.hid hU
    clear hU
    go_wp2_with fail
    go_ret2
    rw [HE.out.1, HE.out.2]
    exact ⟨_, rfl, OwnI.nil _ _, HU1.out⟩
  · go_enter Try.func15, Try.ntmps15
    go_wp2_with fail
    refine (sIsLacing_c _ _ _ _ _ H.out.1 hl hcap).mono ?_
    rintro e w1 ⟨rfl, hU⟩
    have HU1 := Lib.hid hU
    clear hU
    go_wp2_with fail
    refine (sIsLacing_c _ _ _ _ _ (H.out.2.kept0 HU1.out) hl2 hcap2).mono ?_
    rintro e w2 ⟨rfl, hU⟩
    have HU2 := Lib.hid (HU1.out.then0 hU)
    clear hU
    cases h2 : lacB n ys
    · have HE : Hid (mvL n xs ys = [] ∧ mvE n xs ys = 1) := by constructor <;> simp [mvL, mvE, h2]
      go_wp2_with fail
      go_ret2
      rw [HE.out.1, HE.out.2]
      exact ⟨_, rfl, OwnI.nil _ _, HU2.out⟩
    · have HE : Hid (mvL n xs ys = mvTo xs ys xs.length ∧ mvE n xs ys = 0) := by constructor <;> simp [mvL, mvE, h1, h2]
      obtain ⟨hn, hb, hx⟩ := lac_bd h1
      obtain ⟨hn2, -, -⟩ := lac_bd h2
      have hle : (ys.length : Int) ≤ xs.length ∧ (xs.length : Int) ≤ ys.length := by omega
      subst hn
      clear hx hn2 h1 h2
      go_wp2_with fail
      go_loopw [8, 9] (fun v i wr => ∃ k : Nat, k ≤ xs.length ∧ i = .int .i64 k ∧ Hid (OwnI wr w.heap.size v (mvTo xs ys k)) ∧ Hid (Upd [] w wr)) (fun _ i _ => xs.length - (intOf i).toNat)
      case atStart => exact ⟨0, by omega, rfl, OwnI.lit HU2.out, (HU2.out).alloc _⟩
      case round =>
        clear HU1 HU2
        obtain ⟨k, hk, rfl, HO, HU⟩ := hrel
        by_cases hlt : k < xs.length
        · obtain ⟨bb, off, x, rfl, hc, hx⟩ := (H.out.1.kept0 HU.out).get hlt
          obtain ⟨bb2, off2, y, rfl, hc2, hy⟩ := (H.out.2.kept0 HU.out).get (k := k) (by omega)
          have HL := mvTo_le xs ys k
          have i1 : (0 : Int) ≤ (k : Int) := by omega
          have i2 : (k : Int) < (xs.length : Int) := by omega
          have i3 : (k : Int) < (ys.length : Int) := by omega
          have HOD : Hid (∀ nq, OwnI (wr.drewN nq) w.heap.size u8 (mvTo xs ys k) ∧ Upd [] w (wr.drewN nq)) := fun nq => ⟨HO.out.kept0 ((Upd.refl wr).drewN nq), (HU.out).drewN nq⟩
          by_cases hxy : x = y
          · have HN : Hid (mvTo xs ys (k + 1) = mvTo xs ys k) := by
              show mvTo _ _ _ = _; rw [mvTo, upTo, mvF, getD_of hx.out, getD_of hy.out, if_pos hxy, List.append_nil]; rfl
            subst hxy
            go_wp2
            go_quiet (fail)
            go_wp2
            go_roundw
            case rel => exact ⟨k + 1, by omega, by go_num, by rw [HN.out]; exact (HOD.out _).1, (HOD.out _).2⟩
            case measure => simp [intOf]; omega
          · have HN : Hid (mvTo xs ys (k + 1) = mvTo xs ys k ++ [(k : Int)]) := by
              show mvTo _ _ _ = _; rw [mvTo, upTo, mvF, getD_of hx.out, getD_of hy.out, if_neg hxy]; rfl
            have hne : (x != y) = true := by rw [bne_iff_ne]; exact hxy
            clear hxy
            go_wp2
            go_quiet (fail)
            have HX := Lib.hid (HOD.out nq)
            clear HOD HO HU hc hc2
            generalize wr.drewN nq = w4 at HX ⊢
            go_wp2_with (at_builtin; refine wpList_appI rfl _ _ rfl _ _ _ rfl rfl HX.out.1 HX.out.2 (by omega) ?_; intro v' w1 h1 h2; have H1 := Lib.hid h1; have H2 := Lib.hid h2; clear h1 h2)
            go_roundw
            case rel => exact ⟨k + 1, by omega, by go_num, by rw [HN.out]; exact H1, H2⟩
            case measure => simp [intOf]; omega
        · obtain rfl : k = xs.length := by omega
          go_wp2
          go_ret2
          rw [HE.out.1, HE.out.2]
          exact ⟨_, rfl, HO.out, HU.out⟩
end Go.Proofs.Ytiiljmaianfdeaa
