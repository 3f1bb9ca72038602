/- The contracts of chapter 8: trueTurn, afterPlan, AfterPlan. -/
import Derived.Test.YtiiljmaianfdeaaDev2
import Derived.Test.YtiiljmaianfdeaaAfter
namespace Go.Proofs.Ytiiljmaianfdeaa
open Go.RowKit
set_option linter.unusedVariables false
set_option linter.unusedSimpArgs false

set_option maxRecDepth 20000 in
set_option maxHeartbeats 400000 in
theorem trueTurn_n (g c n : Nat) (b : Option Addr) (d : Nat) (xs ws : List Int) (k : Nat) (p K M : Int) (B : Nat) (w : World) (e : xs.length = n) (h : OwnI w B (.slice (some ⟨g, 0, none⟩) n c) xs) (hw : IntsAt w b ws)
    (hne : ∀ ad, b = some ad → ad.block ≠ g) (hn : 1 ≤ (n : Int) ∧ (n : Int) ≤ 48) (hl : (ws.length : Int) ≤ 4) (hi : k ≤ 48) (hp : -1000000 ≤ p ∧ p ≤ 1000000) (hq : ∀ x, x ∈ ws → -K ≤ sgn k p * x ∧ sgn k p * x ≤ K)
    (hK : 0 ≤ K ∧ K ≤ 1000000000) (hM : 0 ≤ M ∧ M ≤ 1000000000000) (hx : AllLe M xs) :
    Calls Try.prog 75 #[.slice (some ⟨g, 0, none⟩) n c, .slice b ws.length d, .int .i64 (k : Int), .int .i64 p] w (Turned w B g n c (spread xs ws k (sgn k p))) := by
  have HE := Lib.hid e
  have H := Lib.hid (show _ ∧ _ from ⟨h, hw⟩)
  have HN := Lib.hid hne
  have HQ := Lib.hid hq
  have HX := Lib.hid hx
  clear e h hw hne hq hx
  obtain ⟨t, hte⟩ : ∃ t, sgn k p = t := ⟨_, rfl⟩
  rcases sgn_cases k p with ⟨hpb, hpt⟩ | ⟨hpb, hpt⟩
  all_goals
    rw [hte] at hpt HQ
    have HTE := Lib.hid hte
    have HPT := Lib.hid hpt
    clear hte hpt
    go_enter Try.func75, Try.ntmps75
    go_wp2_with fail
    try rw [HTE.out]
    try rw [show -p = t from HPT.out.symm]
    try rw [show p = t from HPT.out.symm]
    refine (spreadTurn_n g c n _ _ xs ws k t K M B _ HE.out H.out.1 H.out.2 HN.out hn hl ⟨by omega, by omega⟩ HQ.out hK hM HX.out).mono ?_
    rintro e w' ⟨rfl, h1, h2⟩
    have H1 := Lib.hid (show _ ∧ _ from ⟨h1, h2⟩)
    clear h1 h2
    go_wp2_with fail
    go_end0
    exact ⟨rfl, by rw [HTE.out]; exact H1.out.1, H1.out.2⟩
set_option maxRecDepth 20000 in
set_option maxHeartbeats 800000 in
theorem afterPlan_c (b off c : Nat) (a2 a3 : Option Addr) (c2 c3 : Nat) (xs ws ps : List Int) (M : Int) (w : World) (h : IntsAt w (some ⟨b, off, none⟩) xs) (h2 : IntsAt w a2 ws) (h3 : IntsAt w a3 ps)
    (hn : 1 ≤ (xs.length : Int) ∧ (xs.length : Int) ≤ 10) (hl : 1 ≤ (ws.length : Int) ∧ (ws.length : Int) ≤ 3) (hts : ps.length = xs.length) (hM : 0 ≤ M ∧ M ≤ 1000000) (hx : AllLe M xs) (hw : AllLe 20 ws) (ht : AllLe 100 ps) :
    Calls Try.prog 68 #[.slice (some ⟨b, off, none⟩) xs.length c, .slice a2 ws.length c2, .slice a3 ps.length c3] w (NewI w (afterF xs ws ps)) := by
  obtain ⟨sb, soff, sx, rfl, hsc, -⟩ := h2.get (k := 0) (by omega)
  have hsb := World.block_lt_of_cell? w _ hsc
  have H := Lib.hid h
  have HWS : Hid (∀ w', Upd [] w w' → IntsAt w' (some ⟨sb, soff, none⟩) ws) := fun w' u => h2.kept0 u
  have HTS : Hid (∀ w', Upd [] w w' → IntsAt w' a3 ps) := fun w' u => h3.kept0 u
  have HL := Lib.hid hts
  have HW := Lib.hid hw
  have HT := Lib.hid ht
  have hl2 : (ps.length : Int) ≤ xs.length ∧ (xs.length : Int) ≤ ps.length := by omega
  clear h h2 h3 hts hw ht hsc
  go_enter Try.func68, Try.ntmps68
  go_wp2_with fail
  refine (copyList_c _ _ _ _ H.out (by omega)).mono ?_
  rintro e w1 ⟨v, rfl, h1, h2⟩
  obtain ⟨g, cap, rfl, hg1, hg2⟩ := h1.row (by omega)
  have HU0 := Lib.hid h2
  have HT0 : Hid (Tn w1 w.heap.size g cap xs ws (altF ps) M 12000 0) := ⟨xs, h1, hx.mono (by omega), rfl, rfl⟩
  clear h1 h2 hx
  go_wp2_with fail
  go_loopw [14] (fun v wr => ∃ k : Nat, k ≤ ps.length ∧ v = .int .i64 k ∧ Hid (Tn wr w.heap.size g cap xs ws (altF ps) M 12000 k) ∧ Hid (Upd [] w wr)) (fun v _ => ps.length - (intOf v).toNat)
  case atStart => exact ⟨0, by omega, rfl, HT0, HU0⟩
  case round =>
    clear HT0 HU0
    obtain ⟨k, hk, rfl, HTn, HU⟩ := hrel
    by_cases hlt : k < ps.length
    · obtain ⟨zs, z1, z2, z3, z4⟩ := HTn.out
      obtain ⟨tb, toff, p, rfl, hct, hpk⟩ := (HTS.out _ HU.out).get hlt
      have hp1 := HT.out p (mem_of_get hpk.out)
      have HQ : Hid (∀ x, x ∈ ws → -2000 ≤ sgn k p * x ∧ sgn k p * x ≤ 2000) := fun x hx => by have := mul_bd (sgn_bd k hp1) (HW.out x hx); omega
      have hkM : 0 ≤ 12000 * (k : Int) ∧ 12000 * (k : Int) ≤ 120000 := by omega
      have HZ1 := Lib.hid z1
      have HZ2 := Lib.hid z2
      have HZ3 := Lib.hid z3
      have HZ4 := Lib.hid z4
      clear z1 z2 z3 z4 HTn
      go_wp2_with fail
      refine (trueTurn_n g cap xs.length _ _ zs ws k p 2000 (M + 12000 * k) _ _ HZ3.out HZ1.out (HWS.out _ HU.out) (fun ad e => by cases e; simp; omega) ⟨by omega, by omega⟩ (by omega) (by omega) (by omega) HQ.out (by omega) (by omega) HZ2.out).mono ?_
      rintro e w3 ⟨rfl, s1, s2⟩
      have HN : Hid (Tn w3 w.heap.size g cap xs ws (altF ps) M 12000 (k + 1) ∧ Upd [] w w3) := by
        refine ⟨⟨_, s1, ?_, by rw [spread_length, HZ3.out], ?_⟩, (HU.out).after0 s2 (by simp; omega)⟩
        · refine (spAux_bd (by omega) ws HQ.out 0 HZ2.out (by omega)).mono ?_
          have : 2 * 2000 * (ws.length : Int) ≤ 12000 := by omega
          omega
        · rw [← turnAux_cons (altF_get hpk.out)]; exact HZ4.out
      clear s1 s2
      go_wp2_with fail
      go_roundw
      case rel => exact ⟨k + 1, by omega, by go_num, HN.out.1, HN.out.2⟩
      case measure => simp [intOf]; omega
    · obtain rfl : k = ps.length := by omega
      obtain ⟨zs, z1, z2, z3, z4⟩ := HTn.out
      rw [List.drop_of_length_le (by rw [altF_length]; omega)] at z4
      obtain rfl : zs = afterF xs ws ps := z4
      have HZ1 := Lib.hid z1
      clear z1 z2 z3 HTn
      go_wp2
      go_ret
      exact ⟨_, rfl, HZ1.out, HU.out⟩

/-! ### AfterPlan -/
def plB (xs ps : List Int) : Bool := decide (ps.length = xs.length) && allB ps (-100) 100
def apB (xs e ps : List Int) : Bool := areB (afterF xs e ps) (-500) 500 4 10
def apL (xs e ps : List Int) : List Int := if deB xs e then (if plB xs ps then (if apB xs e ps then afterF xs e ps else []) else []) else []
def apE (xs e ps : List Int) : Int := if deB xs e then (if plB xs ps then (if apB xs e ps then 0 else 3) else 2) else 1
theorem de_bd {xs e : List Int} (h1 : areB xs (-500) 500 4 10 = true) (h2 : effB e = true) : AllLe 500 xs ∧ AllLe 20 e ∧ (4 ≤ (xs.length : Int) ∧ (xs.length : Int) ≤ 10) ∧ 1 ≤ (e.length : Int) ∧ (e.length : Int) ≤ 3 := by
  obtain ⟨a, b⟩ := dev_bd h1
  obtain ⟨c, d, f, -⟩ := effB_t h2
  exact ⟨a, fun x hx => by have := c x hx; omega, b, d, f⟩
theorem sAreDeviations_n (a : Option Addr) (c n : Nat) (xs : List Int) (w : World) (e : xs.length = n) (h : IntsAt w a xs) (hl : n ≤ 1048576) :
    Calls Try.prog 71 #[.slice a n c] w fun e w' => e = .returned (.bool (areB xs (-500) 500 4 10)) ∧ w = w' := by
  subst e; exact sAreDeviations_c a c xs w h hl
set_option maxRecDepth 20000 in
set_option maxHeartbeats 800000 in
theorem sAfterPlan_c (a b d : Option Addr) (ca cb cd : Nat) (xs e ps : List Int) (w : World) (h : IntsAt w a xs) (hs : IntsAt w b e) (ht : IntsAt w d ps) (hl : xs.length ≤ 1048576) (hl2 : e.length ≤ 1048576) (hl3 : ps.length ≤ 1048576) :
    Calls Try.prog 28 #[.slice a xs.length ca, .slice b e.length cb, .slice d ps.length cd] w (NewIC w (apL xs e ps) (apE xs e ps)) := by
  have H := Lib.hid (show _ ∧ _ ∧ _ from ⟨h, hs, ht⟩)
  have hz : inB 0 0 500 = true := by simp [inB]
  cases h1 : deB xs e
  · have HE : Hid (apL xs e ps = [] ∧ apE xs e ps = 1) := by constructor <;> simp [apL, apE, h1]
    have hc : codeD xs e 0 = 1 := by simp [codeD, h1]
    clear h hs ht
    go_enter Try.func28, Try.ntmps28
    go_wp2_with (go_at_call 65; refine (l08Code_c _ _ _ _ _ _ _ _ H.out.1 H.out.2.1 hl hl2).mono ?_; rintro e w' ⟨rfl, rfl⟩)
    go_ret2
    rw [HE.out.1, HE.out.2]
    exact ⟨_, rfl, OwnI.nil _ _, Upd.refl w⟩
  · have hc : codeD xs e 0 = 0 := by simp [codeD, h1, hz]
    by_cases hll : ps.length = xs.length
    · have hne : ((ps.length : Int) != (xs.length : Int)) = false := by rw [hll]; simp
      have hl4 : (ps.length : Int) ≤ xs.length ∧ (xs.length : Int) ≤ ps.length := by omega
      cases h2 : allB ps (-100) 100
      · have HE : Hid (apL xs e ps = [] ∧ apE xs e ps = 2) := by constructor <;> simp [apL, apE, plB, h1, h2]
        clear h hs ht hll
        go_enter Try.func28, Try.ntmps28
        go_wp2_with (first | (go_at_call 65; refine (l08Code_c _ _ _ _ _ _ _ _ H.out.1 H.out.2.1 hl hl2).mono ?_; rintro e w' ⟨rfl, rfl⟩) | (go_at_call 69; refine (l08Plan_c _ _ _ _ H.out.2.2 hl3).mono ?_; rintro e w' ⟨rfl, rfl⟩))
        go_ret2
        rw [HE.out.1, HE.out.2]
        exact ⟨_, rfl, OwnI.nil _ _, Upd.refl w⟩
      · have HE2 : Hid (deB xs e = true ∧ plB xs ps = true) := ⟨h1, by simp [plB, h2, hll]⟩
        have h1' := h1
        simp only [deB, Bool.and_eq_true] at h1'
        obtain ⟨b1, b2, b3, b4, b5⟩ := de_bd h1'.1 h1'.2
        obtain ⟨bb, off, x, rfl, -, -⟩ := h.get (k := 0) (by omega)
        have HB := Lib.hid (show _ ∧ _ ∧ _ ∧ _ from ⟨b1, b2, allB_t h2, hll⟩)
        clear h hs ht hll b1 b2 h1'
        go_enter Try.func28, Try.ntmps28
        go_wp2_with (first | (go_at_call 65; refine (l08Code_c _ _ _ _ _ _ _ _ H.out.1 H.out.2.1 hl hl2).mono ?_; rintro e w' ⟨rfl, rfl⟩) | (go_at_call 69; refine (l08Plan_c _ _ _ _ H.out.2.2 hl3).mono ?_; rintro e w' ⟨rfl, rfl⟩))
        refine (l08After_c _ _ _ _ _ _ _ _ _ _ 500 _ H.out.1 H.out.2.1 H.out.2.2 ⟨by omega, by omega⟩ b5 HB.out.2.2.2 (by omega) HB.out.1 HB.out.2.1 HB.out.2.2.1).mono ?_
        rintro e1 w2 ⟨v, rfl, hO, hU⟩
        obtain ⟨ao, co, hv, hi, -⟩ := hO.intsAt
        rw [afterF_length] at hv
        subst hv
        have HO := Lib.hid (show _ ∧ _ ∧ _ from ⟨hO, hi, hU⟩)
        clear hO hi hU
        cases h3 : apB xs e ps
        · have HE : Hid (apL xs e ps = [] ∧ apE xs e ps = 3) := by constructor <;> simp [apL, apE, HE2.out.1, HE2.out.2, h3]
          have h3' : areB (afterF xs e ps) (-500) 500 4 10 = false := h3
          clear h3
          go_wp2_with (go_at_call 71; refine (sAreDeviations_n _ _ _ _ _ (afterF_length _ _ _) HO.out.2.1 hl).mono ?_; rintro e w' ⟨rfl, rfl⟩)
          go_ret2
          rw [HE.out.1, HE.out.2]
          exact ⟨_, rfl, OwnI.nil _ _, HO.out.2.2⟩
        · have HE : Hid (apL xs e ps = afterF xs e ps ∧ apE xs e ps = 0) := by constructor <;> simp [apL, apE, HE2.out.1, HE2.out.2, h3]
          have h3' : areB (afterF xs e ps) (-500) 500 4 10 = true := h3
          clear h3
          go_wp2_with (go_at_call 71; refine (sAreDeviations_n _ _ _ _ _ (afterF_length _ _ _) HO.out.2.1 hl).mono ?_; rintro e w' ⟨rfl, rfl⟩)
          go_ret2
          rw [HE.out.1, HE.out.2]
          exact ⟨_, rfl, HO.out.1, HO.out.2.2⟩
    · have HE : Hid (apL xs e ps = [] ∧ apE xs e ps = 2) := by constructor <;> simp [apL, apE, plB, h1, hll]
      have hne : ((ps.length : Int) != (xs.length : Int)) = true := by rw [bne_iff_ne]; omega
      have hne2 : ¬ (ps.length : Int) = (xs.length : Int) := by omega
      clear h hs ht
      go_enter Try.func28, Try.ntmps28
      go_wp2_with (go_at_call 65; refine (l08Code_c _ _ _ _ _ _ _ _ H.out.1 H.out.2.1 hl hl2).mono ?_; rintro e w' ⟨rfl, rfl⟩)
      all_goals go_ret2
      all_goals rw [HE.out.1, HE.out.2]
      all_goals exact ⟨_, rfl, OwnI.nil _ _, Upd.refl w⟩
set_option maxRecDepth 20000 in
set_option maxHeartbeats 800000 in
theorem iAfterPlan_c (a b d : Option Addr) (ca cb cd : Nat) (xs e ps : List Int) (w : World) (h : IntsAt w a xs) (hs : IntsAt w b e) (ht : IntsAt w d ps) (hl : xs.length ≤ 1048576) (hl2 : e.length ≤ 1048576) (hl3 : ps.length ≤ 1048576) :
    Calls Try.prog 27 #[.slice a xs.length ca, .slice b e.length cb, .slice d ps.length cd] w (NewIC w (apL xs e ps) (apE xs e ps)) := by
  have H := Lib.hid (show _ ∧ _ ∧ _ from ⟨h, hs, ht⟩)
  cases h1 : areB xs (-500) 500 4 10
  · have HE : Hid (apL xs e ps = [] ∧ apE xs e ps = 1) := by constructor <;> simp [apL, apE, deB, h1]
    clear h hs ht
    go_enter Try.func27, Try.ntmps27
    go_wp2_with (go_at_call 45; refine (iAreDeviations_c _ _ _ _ H.out.1 hl).mono ?_; rintro e w' ⟨rfl, rfl⟩)
    go_ret2
    rw [HE.out.1, HE.out.2]
    exact ⟨_, rfl, OwnI.nil _ _, Upd.refl w⟩
  · cases h1b : effB e
    · have HE : Hid (apL xs e ps = [] ∧ apE xs e ps = 1) := by constructor <;> simp [apL, apE, deB, h1, h1b]
      clear h hs ht
      go_enter Try.func27, Try.ntmps27
      go_wp2_with (first | (go_at_call 45; refine (iAreDeviations_c _ _ _ _ H.out.1 hl).mono ?_; rintro e w' ⟨rfl, rfl⟩) | (go_at_call 32; refine (iIsEffect_c _ _ _ _ H.out.2.1 hl2).mono ?_; rintro e w' ⟨rfl, rfl⟩))
      go_ret2
      rw [HE.out.1, HE.out.2]
      exact ⟨_, rfl, OwnI.nil _ _, Upd.refl w⟩
    · by_cases hll : ps.length = xs.length
      · have hne : ((ps.length : Int) != (xs.length : Int)) = false := by rw [hll]; simp
        have hl4 : (ps.length : Int) ≤ xs.length ∧ (xs.length : Int) ≤ ps.length := by omega
        cases h2 : allB ps (-100) 100
        · have HE : Hid (apL xs e ps = [] ∧ apE xs e ps = 2) := by constructor <;> simp [apL, apE, deB, plB, h1, h1b, h2]
          clear h hs ht hll
          go_enter Try.func27, Try.ntmps27
          go_wp2_with (first | (go_at_call 45; refine (iAreDeviations_c _ _ _ _ H.out.1 hl).mono ?_; rintro e w' ⟨rfl, rfl⟩) | (go_at_call 32; refine (iIsEffect_c _ _ _ _ H.out.2.1 hl2).mono ?_; rintro e w' ⟨rfl, rfl⟩) | (go_at_call 67; refine (allWithin_c _ _ _ _ _ _ H.out.2.2 hl3).mono ?_; rintro e w' ⟨rfl, rfl⟩))
          go_ret2
          rw [HE.out.1, HE.out.2]
          exact ⟨_, rfl, OwnI.nil _ _, Upd.refl w⟩
        · have HE2 : Hid (deB xs e = true ∧ plB xs ps = true) := ⟨by simp [deB, h1, h1b], by simp [plB, h2, hll]⟩
          obtain ⟨b1, b2, b3, b4, b5⟩ := de_bd h1 h1b
          obtain ⟨bb, off, x, rfl, -, -⟩ := h.get (k := 0) (by omega)
          have HB := Lib.hid (show _ ∧ _ ∧ _ ∧ _ from ⟨b1, b2, allB_t h2, hll⟩)
          clear h hs ht hll b1 b2
          go_enter Try.func27, Try.ntmps27
          go_wp2_with (first | (go_at_call 45; refine (iAreDeviations_c _ _ _ _ H.out.1 hl).mono ?_; rintro e w' ⟨rfl, rfl⟩) | (go_at_call 32; refine (iIsEffect_c _ _ _ _ H.out.2.1 hl2).mono ?_; rintro e w' ⟨rfl, rfl⟩) | (go_at_call 67; refine (allWithin_c _ _ _ _ _ _ H.out.2.2 hl3).mono ?_; rintro e w' ⟨rfl, rfl⟩))
          refine (afterPlan_c _ _ _ _ _ _ _ _ _ _ 500 _ H.out.1 H.out.2.1 H.out.2.2 ⟨by omega, by omega⟩ ⟨b4, b5⟩ HB.out.2.2.2 (by omega) HB.out.1 HB.out.2.1 HB.out.2.2.1).mono ?_
          rintro e1 w2 ⟨v, rfl, hO, hU⟩
          obtain ⟨ao, co, hv, hi, -⟩ := hO.intsAt
          rw [afterF_length] at hv
          subst hv
          have HO := Lib.hid (show _ ∧ _ ∧ _ from ⟨hO, hi, hU⟩)
          clear hO hi hU
          cases h3 : apB xs e ps
          · have HE : Hid (apL xs e ps = [] ∧ apE xs e ps = 3) := by constructor <;> simp [apL, apE, HE2.out.1, HE2.out.2, h3]
            have h3' : areB (afterF xs e ps) (-500) 500 4 10 = false := h3
            clear h3
            go_wp2_with fail
            refine (iAreDeviations_n _ _ _ _ _ (afterF_length _ _ _) HO.out.2.1 hl).mono ?_
            rintro e w' ⟨rfl, rfl⟩
            go_wp2_with fail
            go_ret2
            rw [HE.out.1, HE.out.2]
            exact ⟨_, rfl, OwnI.nil _ _, HO.out.2.2⟩
          · have HE : Hid (apL xs e ps = afterF xs e ps ∧ apE xs e ps = 0) := by constructor <;> simp [apL, apE, HE2.out.1, HE2.out.2, h3]
            have h3' : areB (afterF xs e ps) (-500) 500 4 10 = true := h3
            clear h3
            go_wp2_with fail
            refine (iAreDeviations_n _ _ _ _ _ (afterF_length _ _ _) HO.out.2.1 hl).mono ?_
            rintro e w' ⟨rfl, rfl⟩
            go_wp2_with fail
            go_ret2
            rw [HE.out.1, HE.out.2]
            exact ⟨_, rfl, HO.out.1, HO.out.2.2⟩
      · have HE : Hid (apL xs e ps = [] ∧ apE xs e ps = 2) := by constructor <;> simp [apL, apE, deB, plB, h1, h1b, hll]
        have hne : ((ps.length : Int) != (xs.length : Int)) = true := by rw [bne_iff_ne]; omega
        have hne2 : ¬ (ps.length : Int) = (xs.length : Int) := by omega
        clear h hs ht
        go_enter Try.func27, Try.ntmps27
        go_wp2_with (first | (go_at_call 45; refine (iAreDeviations_c _ _ _ _ H.out.1 hl).mono ?_; rintro e w' ⟨rfl, rfl⟩) | (go_at_call 32; refine (iIsEffect_c _ _ _ _ H.out.2.1 hl2).mono ?_; rintro e w' ⟨rfl, rfl⟩))
        all_goals go_ret2
        all_goals rw [HE.out.1, HE.out.2]
        all_goals exact ⟨_, rfl, OwnI.nil _ _, Upd.refl w⟩
end Go.Proofs.Ytiiljmaianfdeaa
