/- The contracts of chapter 7: TurnAll, TurnNipple. -/
import Derived.Test.YtdjdddepplaagaaStiff
import Derived.Test.YtdjdddepplaagaaSpTurn
namespace Go.Proofs.Ytdjdddepplaagaa
open Go.RowKit
set_option linter.unusedVariables false
set_option linter.unusedSimpArgs false

def tfmB2 (xs s : List Int) : Bool := areB xs 0 3000 4 48 && stiffB s
def tsB (xs ts : List Int) : Bool := decide (ts.length = xs.length) && allB ts (-100) 100
def taB (xs s ts : List Int) : Bool := areB (turnF xs s ts) 0 3000 4 48
def taL (xs s ts : List Int) : List Int := if tfmB2 xs s then (if tsB xs ts then (if taB xs s ts then turnF xs s ts else []) else []) else []
def taE (xs s ts : List Int) : Int := if tfmB2 xs s then (if tsB xs ts then (if taB xs s ts then 0 else 3) else 2) else 1
def codeA (xs s ts : List Int) : Int := if tfmB2 xs s then (if tsB xs ts then 0 else 2) else 1
set_option maxRecDepth 20000 in
set_option maxHeartbeats 400000 in
theorem l07Code_c (a b d : Option Addr) (ca cb cd : Nat) (xs s ts : List Int) (w : World) (h : IntsAt w a xs) (hs : IntsAt w b s) (ht : IntsAt w d ts) (hl : xs.length ≤ 1048576) (hl2 : s.length ≤ 1048576) (hl3 : ts.length ≤ 1048576) :
    Calls Try.prog 115 #[.slice a xs.length ca, .slice b s.length cb, .slice d ts.length cd] w fun e w' => e = .returned (.int .i64 (codeA xs s ts)) ∧ Dr w w' := by
  have H := Lib.hid h
  have HS := Lib.hid hs
  have HT : Hid (∀ w', Dr w w' → IntsAt w' d ts) := fun w' u => ht.dr u
  clear h hs ht
  cases h1 : areB xs 0 3000 4 48
  · have HE : Hid (codeA xs s ts = 1) := by show codeA _ _ _ = _; simp [codeA, tfmB2, h1]
    go_enter Try.func115, Try.ntmps115
    go_wp2_with (go_at_call 109; refine (sAreTensions_c _ _ _ _ H.out hl).mono ?_; rintro e w' ⟨rfl, rfl⟩)
    go_ret
    exact ⟨ret_int HE.out.symm, Dr.refl _⟩
  · cases h2 : stiffB s
    · have HE : Hid (codeA xs s ts = 1) := by show codeA _ _ _ = _; simp [codeA, tfmB2, h1, h2]
      go_enter Try.func115, Try.ntmps115
      go_wp2_with (first | (go_at_call 109; refine (sAreTensions_c _ _ _ _ H.out hl).mono ?_; rintro e w' ⟨rfl, rfl⟩) | (go_at_call 51; refine (sIsStiffness_c _ _ _ _ HS.out hl2).mono ?_; rintro e w' ⟨rfl, nn, rfl⟩))
      go_ret
      exact ⟨ret_int HE.out.symm, _, rfl⟩
    · have HE : Hid (codeA xs s ts = if tsB xs ts then 0 else 2) := by show codeA _ _ _ = _; simp [codeA, tfmB2, h1, h2]
      go_enter Try.func115, Try.ntmps115
      go_wp2_with (first | (go_at_call 109; refine (sAreTensions_c _ _ _ _ H.out hl).mono ?_; rintro e w' ⟨rfl, rfl⟩) | (go_at_call 51; refine (sIsStiffness_c _ _ _ _ HS.out hl2).mono ?_; rintro e w' ⟨rfl, nn, rfl⟩))
      have HD : Hid (Dr w (w.drewN nn)) := ⟨_, rfl⟩
      generalize w.drewN nn = w1 at HD ⊢
      go_loop [7] (fun i => ∃ k : Nat, k ≤ ts.length ∧ i = .int .i64 k ∧ Hid (allB (ts.take k) (-100) 100 = true)) (fun i => ts.length - (intOf i).toNat)
      case atStart => exact ⟨0, by omega, rfl, rfl⟩
      case round =>
        obtain ⟨k, hk, rfl, HA⟩ := hrel
        by_cases hlt : k < ts.length
        · obtain ⟨b', off, x, rfl, hc, hx⟩ := (HT.out _ HD.out).get hlt
          cases hi : inB x (-100) 100
          · have HN : Hid (codeA xs s ts = 2) := by show codeA _ _ _ = _; rw [HE.out, if_neg]; simp [tsB, allB_f hx.out hi]
            go_wp2_with (go_at_call 98; refine (l01In_c _ _ _ _).mono ?_; rintro e w' ⟨rfl, rfl⟩)
            go_ret
            exact ⟨ret_int HN.out.symm, HD.out⟩
          · have HN := Lib.hid (allB_step hx.out HA.out hi)
            go_wp2_with (go_at_call 98; refine (l01In_c _ _ _ _).mono ?_; rintro e w' ⟨rfl, rfl⟩)
            go_round
            case rel => exact ⟨k + 1, by omega, by go_num, HN⟩
            case measure => simp [intOf]; omega
        · obtain rfl : k = ts.length := by omega
          have HA1 : Hid (allB ts (-100) 100 = true) := by have := HA.out; rwa [List.take_length] at this
          clear HA
          by_cases hll : ts.length = xs.length
          · have HN : Hid (codeA xs s ts = 0) := by show codeA _ _ _ = _; rw [HE.out, if_pos]; simp [tsB, HA1.out, hll]
            have hne : ((ts.length : Int) != (xs.length : Int)) = false := by rw [hll]; simp
            clear hll
            go_wp2
            all_goals go_ret
            all_goals exact ⟨ret_int HN.out.symm, HD.out⟩
          · have HN : Hid (codeA xs s ts = 2) := by show codeA _ _ _ = _; rw [HE.out, if_neg]; simp [tsB, hll]
            go_wp2
            all_goals go_ret
            all_goals exact ⟨ret_int HN.out.symm, HD.out⟩
theorem tb_all {xs s ts : List Int} (h1 : areB xs 0 3000 4 48 = true) (h2 : stiffB s = true) (h3 : tsB xs ts = true) :
    AllLe 3000 xs ∧ AllLe 200 s ∧ AllLe 100 ts ∧ ts.length = xs.length ∧ (1 ≤ (xs.length : Int) ∧ (xs.length : Int) ≤ 48) ∧ 1 ≤ (s.length : Int) ∧ (s.length : Int) ≤ 4 := by
  obtain ⟨a1, a2, a3⟩ := areB_t h1
  obtain ⟨b1, b2, b3, -, -⟩ := stiffB_t h2
  simp only [tsB, Bool.and_eq_true, decide_eq_true_eq] at h3
  exact ⟨fun x hx => by have := a1 x hx; omega, b1, allB_t h3.2, h3.1, ⟨by omega, a3⟩, b2, b3⟩
set_option maxRecDepth 20000 in
set_option maxHeartbeats 400000 in
theorem sTurnAll_c (a b d : Option Addr) (ca cb cd : Nat) (xs s ts : List Int) (w : World) (h : IntsAt w a xs) (hs : IntsAt w b s) (ht : IntsAt w d ts) (hl : xs.length ≤ 1048576) (hl2 : s.length ≤ 1048576) (hl3 : ts.length ≤ 1048576) :
    Calls Try.prog 46 #[.slice a xs.length ca, .slice b s.length cb, .slice d ts.length cd] w (NewIC w (taL xs s ts) (taE xs s ts)) := by
  have H := Lib.hid (show _ ∧ _ ∧ _ from ⟨h, hs, ht⟩)
  cases h1 : tfmB2 xs s
  · have HE : Hid (taL xs s ts = [] ∧ taE xs s ts = 1) := by constructor <;> simp [taL, taE, h1]
    have hc : codeA xs s ts = 1 := by simp [codeA, h1]
    clear h hs ht
    go_enter Try.func46, Try.ntmps46
    go_wp2_with (go_at_call 115; refine (l07Code_c _ _ _ _ _ _ _ _ _ _ H.out.1 H.out.2.1 H.out.2.2 hl hl2 hl3).mono ?_; rintro e w' ⟨rfl, nn, rfl⟩)
    go_ret2
    rw [HE.out.1, HE.out.2]
    exact ⟨_, rfl, OwnI.nil _ _, (Upd.refl w).drewN _⟩
  · cases h2 : tsB xs ts
    · have HE : Hid (taL xs s ts = [] ∧ taE xs s ts = 2) := by constructor <;> simp [taL, taE, h1, h2]
      have hc : codeA xs s ts = 2 := by simp [codeA, h1, h2]
      clear h hs ht
      go_enter Try.func46, Try.ntmps46
      go_wp2_with (go_at_call 115; refine (l07Code_c _ _ _ _ _ _ _ _ _ _ H.out.1 H.out.2.1 H.out.2.2 hl hl2 hl3).mono ?_; rintro e w' ⟨rfl, nn, rfl⟩)
      go_ret2
      rw [HE.out.1, HE.out.2]
      exact ⟨_, rfl, OwnI.nil _ _, (Upd.refl w).drewN _⟩
    · have hc : codeA xs s ts = 0 := by simp [codeA, h1, h2]
      have h1' := h1
      simp only [tfmB2, Bool.and_eq_true] at h1'
      obtain ⟨b1, b2, b3, b4, b5, b6, b7⟩ := tb_all h1'.1 h1'.2 h2
      obtain ⟨bb, off, x, rfl, -, -⟩ := h.get (k := 0) (by omega)
      have HB := Lib.hid (show _ ∧ _ ∧ _ ∧ _ from ⟨b1, b2, b3, b4⟩)
      have hle : (turnF xs s ts).length ≤ 1048576 := by rw [turnF_length]; exact hl
      clear h hs ht b1 b2 b3 b4 h1'
      go_enter Try.func46, Try.ntmps46
      go_wp2_with (go_at_call 115; refine (l07Code_c _ _ _ _ _ _ _ _ _ _ H.out.1 H.out.2.1 H.out.2.2 hl hl2 hl3).mono ?_; rintro e w' ⟨rfl, nn, rfl⟩)
      have HD : Hid (Dr w (w.drewN nn)) := ⟨_, rfl⟩
      generalize w.drewN nn = w1 at HD ⊢
      refine (l07Turn_c _ _ _ _ _ _ _ _ _ _ _ (H.out.1.dr HD.out) (H.out.2.1.dr HD.out) (H.out.2.2.dr HD.out) b5 b7 HB.out.2.2.2 HB.out.1 HB.out.2.1 HB.out.2.2.1).mono ?_
      rintro e w2 ⟨v, rfl, hO, hU⟩
      rw [HD.out.size] at hO
      obtain ⟨ao, co, rfl, hi, -⟩ := hO.intsAt
      have HO := Lib.hid (show _ ∧ _ ∧ _ from ⟨hO, hi, HD.out.upd.then0 hU⟩)
      clear hO hi hU
      cases h3 : taB xs s ts
      · have HE : Hid (taL xs s ts = [] ∧ taE xs s ts = 3) := by constructor <;> simp [taL, taE, h1, h2, h3]
        have h3' : areB (turnF xs s ts) 0 3000 4 48 = false := h3
        clear h1 h2 h3
        go_wp2_with (go_at_call 109; refine (sAreTensions_c _ _ _ _ HO.out.2.1 hle).mono ?_; rintro e w' ⟨rfl, rfl⟩)
        go_ret2
        rw [HE.out.1, HE.out.2]
        exact ⟨_, rfl, OwnI.nil _ _, HO.out.2.2⟩
      · have HE : Hid (taL xs s ts = turnF xs s ts ∧ taE xs s ts = 0) := by constructor <;> simp [taL, taE, h1, h2, h3]
        have h3' : areB (turnF xs s ts) 0 3000 4 48 = true := h3
        clear h1 h2 h3
        go_wp2_with (go_at_call 109; refine (sAreTensions_c _ _ _ _ HO.out.2.1 hle).mono ?_; rintro e w' ⟨rfl, rfl⟩)
        go_ret2
        rw [HE.out.1, HE.out.2]
        exact ⟨_, rfl, HO.out.1, HO.out.2.2⟩
set_option maxRecDepth 20000 in
set_option maxHeartbeats 800000 in
theorem iTurnAll_c (a b d : Option Addr) (ca cb cd : Nat) (xs s ts : List Int) (w : World) (h : IntsAt w a xs) (hs : IntsAt w b s) (ht : IntsAt w d ts) (hl : xs.length ≤ 1048576) (hl2 : s.length ≤ 1048576) (hl3 : ts.length ≤ 1048576) (hcb : s.length ≤ cb) :
    Calls Try.prog 45 #[.slice a xs.length ca, .slice b s.length cb, .slice d ts.length cd] w (NewIC w (taL xs s ts) (taE xs s ts)) := by
  have H := Lib.hid (show _ ∧ _ ∧ _ from ⟨h, hs, ht⟩)
  cases h1 : areB xs 0 3000 4 48
  · have HE : Hid (taL xs s ts = [] ∧ taE xs s ts = 1) := by constructor <;> simp [taL, taE, tfmB2, h1]
    clear h hs ht
    go_enter Try.func45, Try.ntmps45
    go_wp2_with (go_at_call 52; refine (iAreTensions_c _ _ _ _ H.out.1 hl).mono ?_; rintro e w' ⟨rfl, rfl⟩)
    go_ret2
    rw [HE.out.1, HE.out.2]
    exact ⟨_, rfl, OwnI.nil _ _, Upd.refl w⟩
  · cases h1b : stiffB s
    · have HE : Hid (taL xs s ts = [] ∧ taE xs s ts = 1) := by constructor <;> simp [taL, taE, tfmB2, h1, h1b]
      clear h hs ht
      go_enter Try.func45, Try.ntmps45
      go_wp2_with (first | (go_at_call 52; refine (iAreTensions_c _ _ _ _ H.out.1 hl).mono ?_; rintro e w' ⟨rfl, rfl⟩) | (go_at_call 50; refine (iIsStiffness_c _ _ _ _ H.out.2.1 hl2 hcb).mono ?_; rintro e w' ⟨rfl, nn, rfl⟩))
      go_ret2
      rw [HE.out.1, HE.out.2]
      exact ⟨_, rfl, OwnI.nil _ _, (Upd.refl w).drewN _⟩
    · by_cases hll : ts.length = xs.length
      · have hne : ((ts.length : Int) != (xs.length : Int)) = false := by rw [hll]; simp
        have hl4 : (ts.length : Int) ≤ xs.length ∧ (xs.length : Int) ≤ ts.length := by omega
        cases h2 : allB ts (-100) 100
        · have HE : Hid (taL xs s ts = [] ∧ taE xs s ts = 2) := by constructor <;> simp [taL, taE, tfmB2, tsB, h1, h1b, h2]
          clear h hs ht hll
          go_enter Try.func45, Try.ntmps45
          go_wp2_with (first | (go_at_call 52; refine (iAreTensions_c _ _ _ _ H.out.1 hl).mono ?_; rintro e w' ⟨rfl, rfl⟩) | (go_at_call 50; refine (iIsStiffness_c _ _ _ _ H.out.2.1 hl2 hcb).mono ?_; rintro e w' ⟨rfl, nn, rfl⟩) | (go_at_call 113; refine (allWithin_c _ _ _ _ _ _ (H.out.2.2.dr (by repeat (first | exact Dr.refl _ | apply Dr.drewN))) hl3).mono ?_; rintro e w' ⟨rfl, rfl⟩))
          go_ret2
          rw [HE.out.1, HE.out.2]
          exact ⟨_, rfl, OwnI.nil _ _, (Upd.refl w).drewN _⟩
        · have h2b : tsB xs ts = true := by simp [tsB, h2, hll]
          obtain ⟨b1, b2, b3, b4, b5, b6, b7⟩ := tb_all h1 h1b h2b
          obtain ⟨bb, off, x, rfl, -, -⟩ := h.get (k := 0) (by omega)
          obtain ⟨sb, soff, sx, rfl, hsc, -⟩ := hs.get (k := 0) (by omega)
          have hsb := World.block_lt_of_cell? w _ hsc
          have HB := Lib.hid (show _ ∧ _ ∧ _ ∧ _ from ⟨b1, b2, b3, b4⟩)
          have hle : (turnF xs s ts).length ≤ 1048576 := by rw [turnF_length]; exact hl
          have HE2 : Hid (tfmB2 xs s = true ∧ tsB xs ts = true) := ⟨by simp [tfmB2, h1, h1b], h2b⟩
          clear h hs ht b1 b2 b3 b4 hll h2b hsc
          go_enter Try.func45, Try.ntmps45
          go_wp2_with (first | (go_at_call 52; refine (iAreTensions_c _ _ _ _ H.out.1 hl).mono ?_; rintro e w' ⟨rfl, rfl⟩) | (go_at_call 50; refine (iIsStiffness_c _ _ _ _ H.out.2.1 hl2 hcb).mono ?_; rintro e w' ⟨rfl, nn, rfl⟩) | (go_at_call 113; refine (allWithin_c _ _ _ _ _ _ (H.out.2.2.dr (by repeat (first | exact Dr.refl _ | apply Dr.drewN))) hl3).mono ?_; rintro e w' ⟨rfl, rfl⟩))
          have HD : Hid (Dr w (w.drewN nn)) := ⟨_, rfl⟩
          generalize w.drewN nn = w1 at HD ⊢
          refine (copyList_c _ _ _ _ (H.out.1.dr HD.out) hl).mono ?_
          rintro e w2 ⟨v, rfl, hO, hU⟩
          rw [HD.out.size] at hO
          obtain ⟨g, cap, rfl, hg1, hg2⟩ := hO.row (by omega)
          have HU0 : Hid (Upd [] w w2) := HD.out.upd.then0 hU
          have HT0 : Hid (Tn w2 w.heap.size g cap xs s ts 3000 160000 0) := ⟨xs, hO, HB.out.1.mono (by omega), rfl, rfl⟩
          have HWS : Hid (∀ w', Upd [] w w' → IntsAt w' (some ⟨sb, soff, none⟩) s) := fun w' u => H.out.2.1.kept0 u
          have HTS : Hid (∀ w', Upd [] w w' → IntsAt w' d ts) := fun w' u => H.out.2.2.kept0 u
          clear hO hU HD
          go_wp2_with fail
          go_loopw [33] (fun v wr => ∃ k : Nat, k ≤ xs.length ∧ v = .int .i64 k ∧ Hid (Tn wr w.heap.size g cap xs s ts 3000 160000 k) ∧ Hid (Upd [] w wr)) (fun v _ => xs.length - (intOf v).toNat)
          case atStart => exact ⟨0, by omega, rfl, HT0, HU0⟩
          case round =>
            clear HT0 HU0
            obtain ⟨k, hk, rfl, HTn, HU⟩ := hrel
            by_cases hlt : k < xs.length
            · obtain ⟨zs, z1, z2, z3, z4⟩ := HTn.out
              obtain ⟨tb, toff, t, rfl, hct, htk⟩ := (HTS.out _ HU.out).get (k := k) (by omega)
              have ht1 := HB.out.2.2.1 t (mem_of_get htk.out)
              have HQ : Hid (∀ x, x ∈ s → -20000 ≤ t * x ∧ t * x ≤ 20000) := fun x hx => by have := mul_bd ht1 (HB.out.2.1 x hx); omega
              have hkM : 0 ≤ 160000 * (k : Int) ∧ 160000 * (k : Int) ≤ 7680000 := by omega
              have hk4 : k < ts.length := by omega
              have HZ1 := Lib.hid z1
              have HZ2 := Lib.hid z2
              have HZ3 := Lib.hid z3
              have HZ4 := Lib.hid z4
              clear z1 z2 z4 HTn
              have hkz : (k : Int) ≤ 48 := by have := b5; omega
              clear z3
              go_wp2_with fail
              refine (spreadTurn_n g cap xs.length _ _ zs s k t 20000 (3000 + 160000 * k) _ _ HZ3.out HZ1.out (HWS.out _ HU.out) (fun ad e => by cases e; simp; omega) b5 b7 ⟨by omega, hkz⟩ HQ.out (by omega) (by omega) HZ2.out).mono ?_
              rintro e w3 ⟨rfl, s1, s2⟩
              have HN : Hid (Tn w3 w.heap.size g cap xs s ts 3000 160000 (k + 1) ∧ Upd [] w w3) := by
                refine ⟨⟨_, s1, ?_, by rw [spread_length, HZ3.out], ?_⟩, (HU.out).after0 s2 (by simp; omega)⟩
                · refine (spAux_bd (by omega) s HQ.out 0 HZ2.out (by omega)).mono ?_
                  have : 2 * 20000 * (s.length : Int) ≤ 160000 := by omega
                  omega
                · rw [← turnAux_cons htk.out]; exact HZ4.out
              clear s1 s2
              go_wp2_with fail
              go_roundw
              case rel => exact ⟨k + 1, by omega, by go_num, HN.out.1, HN.out.2⟩
              case measure => simp [intOf]; omega
            · obtain rfl : k = xs.length := by omega
              obtain ⟨zs, z1, z2, z3, z4⟩ := HTn.out
              rw [List.drop_of_length_le (by omega)] at z4
              obtain rfl : zs = turnF xs s ts := z4
              have HZ1 := Lib.hid z1
              have HZA : Hid (IntsAt wr (some ⟨g, 0, none⟩) (turnF xs s ts)) := by
                obtain ⟨a', c', e, hi, -⟩ := HZ1.out.intsAt
                simp only [Value.slice.injEq] at e
                rw [e.1]; exact hi
              have HZ3 := Lib.hid z3
              clear z1 z2 z3 HTn
              cases h3 : taB xs s ts
              · have HE : Hid (taL xs s ts = [] ∧ taE xs s ts = 3) := by constructor <;> simp [taL, taE, HE2.out.1, HE2.out.2, h3]
                have h3' : areB (turnF xs s ts) 0 3000 4 48 = false := h3
                clear h3
                go_wp2_with fail
                refine (iAreTensions_n _ _ _ _ _ HZ3.out HZA.out hl).mono ?_
                rintro e w' ⟨rfl, rfl⟩
                go_wp2_with fail
                go_ret2
                rw [HE.out.1, HE.out.2]
                exact ⟨_, rfl, OwnI.nil _ _, HU.out⟩
              · have HE : Hid (taL xs s ts = turnF xs s ts ∧ taE xs s ts = 0) := by constructor <;> simp [taL, taE, HE2.out.1, HE2.out.2, h3]
                have h3' : areB (turnF xs s ts) 0 3000 4 48 = true := h3
                clear h3
                go_wp2_with fail
                refine (iAreTensions_n _ _ _ _ _ HZ3.out HZA.out hl).mono ?_
                rintro e w' ⟨rfl, rfl⟩
                go_wp2_with fail
                go_ret2
                rw [HE.out.1, HE.out.2]
                exact ⟨_, rfl, HZ1.out, HU.out⟩
      · have HE : Hid (taL xs s ts = [] ∧ taE xs s ts = 2) := by constructor <;> simp [taL, taE, tfmB2, tsB, h1, h1b, hll]
        have hne : ((ts.length : Int) != (xs.length : Int)) = true := by rw [bne_iff_ne]; omega
        have hne2 : ¬ (ts.length : Int) = (xs.length : Int) := by omega
        clear h hs ht
        go_enter Try.func45, Try.ntmps45
        go_wp2_with (first | (go_at_call 52; refine (iAreTensions_c _ _ _ _ H.out.1 hl).mono ?_; rintro e w' ⟨rfl, rfl⟩) | (go_at_call 50; refine (iIsStiffness_c _ _ _ _ H.out.2.1 hl2 hcb).mono ?_; rintro e w' ⟨rfl, nn, rfl⟩))
        all_goals go_ret2
        all_goals rw [HE.out.1, HE.out.2]
        all_goals exact ⟨_, rfl, OwnI.nil _ _, (Upd.refl w).drewN _⟩
end Go.Proofs.Ytdjdddepplaagaa
