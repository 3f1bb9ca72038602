/- The contracts of chapter 8: truing by best turns. -/
import Derived.Test.YtiiljmaianfdeaaBest
namespace Go.Proofs.Ytiiljmaianfdeaa
open Go.RowKit
set_option linter.unusedVariables false
set_option linter.unusedSimpArgs false

/-- The plan after some best turns. -/
def trueF (e : List Int) : Nat → List Int → List Int → List Int
  | 0, _, plan => plan
  | k + 1, now, plan => if 0 ≤ bSp now e then trueF e k (oneT now e (bSp now e).toNat (bQ now e)) (addAt plan (bSp now e).toNat (bQ now e)) else plan
theorem trueF_t {e now plan : List Int} {k s : Nat} {q : Int} (h : bSp now e = (s : Int)) (h2 : bQ now e = q) (hk : 0 < k) : trueF e k now plan = trueF e (k - 1) (oneT now e s q) (addAt plan s q) := by
  obtain ⟨k, rfl⟩ : ∃ j, k = j + 1 := ⟨k - 1, by omega⟩
  rw [trueF, if_pos (by omega), h, h2]; rfl
theorem trueF_f {e now plan : List Int} {k : Nat} (h : bSp now e < 0) : trueF e k now plan = plan := by
  cases k with
  | zero => rfl
  | succ k => rw [trueF, if_neg (by omega)]
theorem trueF_length (e : List Int) (k : Nat) (now plan : List Int) : (trueF e k now plan).length = plan.length := by
  induction k generalizing now plan with
  | zero => rfl
  | succ k ih =>
    rw [trueF]; split
    · rw [ih, addAt_length]
    · rfl
def tbL (xs e : List Int) (t : Int) : List Int := if deB xs e then (if inB t 0 40 then trueF e t.toNat xs (List.replicate xs.length 0) else []) else []
def tbE (xs e : List Int) (t : Int) : Int := if deB xs e then (if inB t 0 40 then 0 else 2) else 1
theorem zeros_bd (n : Nat) (M : Int) (hM : 0 ≤ M) : AllLe M (List.replicate n 0) := fun x hx => by have := (List.mem_replicate.1 hx).2; omega
/-- Where the rounds stand: k are left. -/
def TrI (w : World) (B g c p cp n : Nat) (e R : List Int) (k : Nat) : Prop := ∃ now plan, OwnI w B (.slice (some ⟨g, 0, none⟩) n c) now ∧ OwnI w B (.slice (some ⟨p, 0, none⟩) n cp) plan ∧
  now.length = n ∧ plan.length = n ∧ AllLe (500 + 120 * (40 - k)) now ∧ AllLe (40 - k) plan ∧ trueF e k now plan = R
set_option maxRecDepth 20000 in
set_option maxHeartbeats 1600000 in
theorem iTrueByTurns_c (a b : Option Addr) (ca cb : Nat) (xs e : List Int) (t : Int) (w : World) (h : IntsAt w a xs) (hs : IntsAt w b e) (hl : xs.length ≤ 1048576) (hl2 : e.length ≤ 1048576) :
    Calls Try.prog 39 #[.slice a xs.length ca, .slice b e.length cb, .int .i64 t] w (NewIC w (tbL xs e t) (tbE xs e t)) := by
  have H := Lib.hid (show _ ∧ _ from ⟨h, hs⟩)
  cases h1 : areB xs (-500) 500 4 10
  · have HE : Hid (tbL xs e t = [] ∧ tbE xs e t = 1) := by constructor <;> simp [tbL, tbE, deB, h1]
    clear h hs
    go_enter Try.func39, Try.ntmps39
    go_wp2_with (go_at_call 45; refine (iAreDeviations_c _ _ _ _ H.out.1 hl).mono ?_; rintro e w' ⟨rfl, rfl⟩)
    go_ret2
    rw [HE.out.1, HE.out.2]
    exact ⟨_, rfl, OwnI.nil _ _, Upd.refl w⟩
  · cases h1b : effB e
    · have HE : Hid (tbL xs e t = [] ∧ tbE xs e t = 1) := by constructor <;> simp [tbL, tbE, deB, h1, h1b]
      clear h hs
      go_enter Try.func39, Try.ntmps39
      go_wp2_with (first | (go_at_call 45; refine (iAreDeviations_c _ _ _ _ H.out.1 hl).mono ?_; rintro e w' ⟨rfl, rfl⟩) | (go_at_call 32; refine (iIsEffect_c _ _ _ _ H.out.2 hl2).mono ?_; rintro e w' ⟨rfl, rfl⟩))
      go_ret2
      rw [HE.out.1, HE.out.2]
      exact ⟨_, rfl, OwnI.nil _ _, Upd.refl w⟩
    · cases h2 : inB t 0 40
      · have HE : Hid (tbL xs e t = [] ∧ tbE xs e t = 2) := by constructor <;> simp [tbL, tbE, deB, h1, h1b, h2]
        clear h hs
        go_enter Try.func39, Try.ntmps39
        go_wp2_with (first | (go_at_call 45; refine (iAreDeviations_c _ _ _ _ H.out.1 hl).mono ?_; rintro e w' ⟨rfl, rfl⟩) | (go_at_call 32; refine (iIsEffect_c _ _ _ _ H.out.2 hl2).mono ?_; rintro e w' ⟨rfl, rfl⟩) | (go_at_call 51; refine (within_c _ _ _ _).mono ?_; rintro e w' ⟨rfl, rfl⟩))
        go_ret2
        rw [HE.out.1, HE.out.2]
        exact ⟨_, rfl, OwnI.nil _ _, Upd.refl w⟩
      · have ht := inB_t h2
        obtain ⟨m, rfl⟩ : ∃ m : Nat, t = m := ⟨t.toNat, by omega⟩
        have HE : Hid (tbL xs e m = trueF e m xs (List.replicate xs.length 0) ∧ tbE xs e m = 0) := by constructor <;> simp [tbL, tbE, deB, h1, h1b, h2]
        obtain ⟨b1, b2, b3, b4, b5⟩ := de_bd h1 h1b
        obtain ⟨bb, off, x, rfl, -, -⟩ := h.get (k := 0) (by omega)
        obtain ⟨sb, soff, sx, rfl, hsc, -⟩ := hs.get (k := 0) (by omega)
        have hsb := World.block_lt_of_cell? w _ hsc
        have HB := Lib.hid (show _ ∧ _ from ⟨b1, b2⟩)
        have HWS : Hid (∀ w', Upd [] w w' → IntsAt w' (some ⟨sb, soff, none⟩) e) := fun w' u => hs.kept0 u
        clear h hs b1 b2 hsc
        go_enter Try.func39, Try.ntmps39
        go_wp2_with (first | (go_at_call 45; refine (iAreDeviations_c _ _ _ _ H.out.1 hl).mono ?_; rintro e w' ⟨rfl, rfl⟩) | (go_at_call 32; refine (iIsEffect_c _ _ _ _ H.out.2 hl2).mono ?_; rintro e w' ⟨rfl, rfl⟩) | (go_at_call 51; refine (within_c _ _ _ _).mono ?_; rintro e w' ⟨rfl, rfl⟩))
        refine (copyList_c _ _ _ _ H.out.1 hl).mono ?_
        rintro en w1 ⟨v, rfl, o1, u1⟩
        obtain ⟨g, cap, rfl, hg1, hg2⟩ := o1.row (by omega)
        have HO1 := Lib.hid (show _ ∧ _ from ⟨o1, u1⟩)
        clear o1 u1
        go_wp2_with (at_make; refine wpList_mkI rfl _ _ rfl .i64 .i64 xs.length rfl rfl (by omega) (Upd.refl w1) ?_; intro w2 o2 u2 s2; have HO2 := Lib.hid (show _ ∧ _ from ⟨o2, u2⟩); clear o2 u2 s2)
        obtain ⟨p, hp⟩ : ∃ p, w1.heap.size = p := ⟨_, rfl⟩
        have hgp : g < p := by omega
        have HU0 : Hid (Upd [] w w2) := (HO1.out.2).then0 HO2.out.2
        have HT0 : Hid (TrI w2 w.heap.size g cap p xs.length xs.length e (trueF e m xs (List.replicate xs.length 0)) m) := by
          refine ⟨xs, List.replicate xs.length 0, (HO1.out.1).kept0 HO2.out.2, by rw [← hp]; exact (HO2.out.1).mono (by omega), rfl, by simp, HB.out.1.mono (by omega), zeros_bd _ _ (by omega), rfl⟩
        rw [hp]
        clear HO1 HO2 hp
        go_loopw [2] (fun mv wr => ∃ k : Nat, k ≤ m ∧ mv = .int .i64 k ∧ Hid (TrI wr w.heap.size g cap p xs.length xs.length e (trueF e m xs (List.replicate xs.length 0)) k) ∧ Hid (Upd [] w wr)) (fun mv _ => (intOf mv).toNat)
        case atStart => exact ⟨m, by omega, rfl, HT0, HU0⟩
        case round =>
          clear HT0 HU0
          obtain ⟨k, hk, rfl, HT, HU⟩ := hrel
          obtain ⟨now, plan, t1, t2, t3, t4, t5, t6, t7⟩ := HT.out
          have HTT := Lib.hid (show _ ∧ _ ∧ _ ∧ _ ∧ _ ∧ _ from ⟨t1, t2, t3, t5, t6, t7⟩)
          have HT4 := Lib.hid t4
          have HUk := Lib.hid (Upd.refl wr)
          clear HT t1 t2 t3 t4 t5 t6 t7
          by_cases hk0 : k = 0
          · have hd : decide (0 < k) = false := by rw [hk0]; rfl
            have HR : Hid (plan = trueF e m xs (List.replicate xs.length 0)) := by
              have := HTT.out.2.2.2.2.2; rw [hk0] at this; exact this
            clear hk0
            go_wp2
            go_ret2
            rw [HE.out.1, HE.out.2, ← HR.out]
            exact ⟨_, rfl, HTT.out.2.1, HU.out⟩
          · have hk1 : 0 < k := by omega
            have hd : decide (0 < k) = true := decide_eq_true hk1
            clear hk0
            go_wp2_with fail
            refine (bestTurn_n g 0 _ xs.length _ _ now e (500 + 120 * (40 - (k : Int))) _ HTT.out.2.2.1 HTT.out.1.ints (HWS.out _ HU.out) ⟨by omega, by omega⟩ ⟨b4, b5⟩ ⟨by omega, by omega⟩ HTT.out.2.2.2.1 HB.out.2).mono ?_
            intro e1 w3 hb
            obtain ⟨sp, q, f, rfl, hc, hu⟩ := hb.cases
            have hbd := bSQ now e
            rw [HTT.out.2.2.1] at hbd
            have HU3 := Lib.hid hu
            clear hb hu
            rcases hc with ⟨rfl, c1, c2, c3⟩ | ⟨rfl, c1, rfl, rfl⟩
            · rw [c1, c2] at hbd
              obtain ⟨s, rfl⟩ : ∃ s : Nat, sp = s := ⟨sp.toNat, by omega⟩
              have hs1 : s < xs.length := by omega
              have hq1 : -1 ≤ q ∧ q ≤ 1 := by omega
              have HC := Lib.hid (trueF_t (plan := plan) c1 c2 hk1)
              clear c1 c2 c3 hbd
              have HQ : Hid (∀ x, x ∈ e → -20 ≤ sgn s q * x ∧ sgn s q * x ≤ 20) := fun x hx => by have := mul_bd (sgn_bd s hq1) (HB.out.2 x hx); omega
              go_wp2_with fail
              refine (trueTurn_n g cap xs.length _ _ now e s q 20 (500 + 120 * (40 - (k : Int))) _ _ HTT.out.2.2.1 ((HTT.out.1).kept0 HU3.out) (HWS.out _ ((HU.out).then0 HU3.out)) (fun ad e => by cases e; simp; omega) ⟨by omega, by omega⟩ (by omega) (by omega) (by omega) HQ.out (by omega) ⟨by omega, by omega⟩ HTT.out.2.2.2.1).mono ?_
              rintro en w4 ⟨rfl, s1, s2⟩
              have HU4 : Hid (Upd [] w w4) := ((HU.out).then0 HU3.out).after0 s2 (by simp; omega)
              have HN := Lib.hid (show OwnI w4 _ _ (oneT now e s q) from s1)
              have HP : Hid (OwnI w4 w.heap.size (.slice (some ⟨p, 0, none⟩) xs.length xs.length) plan) := ((HTT.out.2.1).kept0 HU3.out).keptNe s2 (fun k hk => by simp [Value.ownBlock] at hk; simp; omega)
              clear s1 s2
              obtain ⟨y, hy⟩ : ∃ y, plan.getD s 0 = y := ⟨_, rfl⟩
              have hyb := (HTT.out.2.2.2.2.1).get (by omega) s
              rw [hy] at hyb
              have hgy := get_of_getD (by rw [HT4.out]; exact hs1) hy
              have hcy := (HP.out).cell hgy
              have hfy := (HP.out).free s
              have i1 : (s : Int) < (xs.length : Int) := by omega
              have HNN : Hid (TrI (w4.setCell ⟨p, s, none⟩ (.int .i64 (y + q))) w.heap.size g cap p xs.length xs.length e (trueF e m xs (List.replicate xs.length 0)) (k - 1)) := by
                have hku : Upd [p] w4 (w4.setCell ⟨p, s, none⟩ (.int .i64 (y + q))) := (Upd.refl w4 |>.mono (by simp)).setCell _ (.inl (by simp))
                refine ⟨oneT now e s q, addAt plan s q, (HN.out).keptNe hku (fun k hk => by simp [Value.ownBlock] at hk; simp; omega), ?_, by rw [oneT_length, HTT.out.2.2.1], by rw [addAt_length, HT4.out], ?_, ?_, ?_⟩
                · rw [add_getD hy]; exact (HP.out).set s (y + q) (by rw [HT4.out]; exact hs1)
                · exact (oneT_bd HTT.out.2.2.2.1 (by omega) HB.out.2 b5 s hq1).mono (by omega)
                · exact ((HTT.out.2.2.2.2.1).addAt (by omega) s q hq1).mono (by omega)
                · rw [← HC.out]; exact HTT.out.2.2.2.2.2
              have HUN : Hid (Upd [] w (w4.setCell ⟨p, s, none⟩ (.int .i64 (y + q)))) := (HU4.out).setCell _ (.inr (by simp; omega))
              clear hy hgy
              go_wp2
              go_roundw
              case rel => exact ⟨k - 1, by omega, congrArg (Value.int .i64) (by omega), HNN, HUN⟩
              case measure => simp [intOf]; omega
            · have HR : Hid (plan = trueF e m xs (List.replicate xs.length 0)) := by
                have := HTT.out.2.2.2.2.2; rw [trueF_f (by omega)] at this; exact this
              clear c1 hbd
              go_wp2
              go_ret2
              rw [HE.out.1, HE.out.2, ← HR.out]
              exact ⟨_, rfl, (HTT.out.2.1).kept0 HU3.out, (HU.out).then0 HU3.out⟩
/-- The same for the model: the deviations lie in any block but the plan's. -/
def TrS (w : World) (B p cp n : Nat) (e R : List Int) (k : Nat) (v : Value) : Prop := ∃ b off c now plan, v = .slice (some ⟨b, off, none⟩) n c ∧ b ≠ p ∧ IntsAt w (some ⟨b, off, none⟩) now ∧ OwnI w B (.slice (some ⟨p, 0, none⟩) n cp) plan ∧
  now.length = n ∧ plan.length = n ∧ AllLe (500 + 120 * (40 - k)) now ∧ AllLe (40 - k) plan ∧ trueF e k now plan = R
theorem l08After_n (b off c n : Nat) (a2 a3 : Option Addr) (c2 c3 : Nat) (xs ws ps : List Int) (M : Int) (w : World) (e : xs.length = n) (h : IntsAt w (some ⟨b, off, none⟩) xs) (h2 : IntsAt w a2 ws) (h3 : IntsAt w a3 ps)
    (hn : 1 ≤ (n : Int) ∧ (n : Int) ≤ 10) (hl : (ws.length : Int) ≤ 3) (hts : ps.length = n) (hM : 0 ≤ M ∧ M ≤ 1000000) (hx : AllLe M xs) (hw : AllLe 20 ws) (ht : AllLe 100 ps) :
    Calls Try.prog 70 #[.slice (some ⟨b, off, none⟩) n c, .slice a2 ws.length c2, .slice a3 ps.length c3] w (NewI w (afterF xs ws ps)) := by
  subst e; exact l08After_c b off c a2 a3 c2 c3 xs ws ps M w h h2 h3 hn hl hts hM hx hw ht
set_option maxRecDepth 20000 in
set_option maxHeartbeats 1600000 in
theorem sTrueByTurns_c (a b : Option Addr) (ca cb : Nat) (xs e : List Int) (t : Int) (w : World) (h : IntsAt w a xs) (hs : IntsAt w b e) (hl : xs.length ≤ 1048576) (hl2 : e.length ≤ 1048576) :
    Calls Try.prog 40 #[.slice a xs.length ca, .slice b e.length cb, .int .i64 t] w (NewIC w (tbL xs e t) (tbE xs e t)) := by
  have H := Lib.hid (show _ ∧ _ from ⟨h, hs⟩)
  cases hd : deB xs e
  · have HE : Hid (tbL xs e t = [] ∧ tbE xs e t = 1) := by constructor <;> simp [tbL, tbE, hd]
    have hc : codeD xs e 0 = 1 := by simp [codeD, hd]
    clear h hs
    go_enter Try.func40, Try.ntmps40
    go_wp2_with (go_at_call 65; refine (l08Code_c _ _ _ _ xs e 0 _ H.out.1 H.out.2 hl hl2).mono ?_; rintro e w' ⟨rfl, rfl⟩)
    go_ret2
    rw [HE.out.1, HE.out.2]
    exact ⟨_, rfl, OwnI.nil _ _, Upd.refl w⟩
  · have hc : codeD xs e 0 = 0 := by simp [codeD, hd, inB]
    cases h2 : inB t 0 40
    · have HE : Hid (tbL xs e t = [] ∧ tbE xs e t = 2) := by constructor <;> simp [tbL, tbE, hd, h2]
      clear h hs
      go_enter Try.func40, Try.ntmps40
      go_wp2_with (first | (go_at_call 65; refine (l08Code_c _ _ _ _ xs e 0 _ H.out.1 H.out.2 hl hl2).mono ?_; rintro e w' ⟨rfl, rfl⟩) | (go_at_call 72; refine (l01In_c _ _ _ _).mono ?_; rintro e w' ⟨rfl, rfl⟩))
      go_ret2
      rw [HE.out.1, HE.out.2]
      exact ⟨_, rfl, OwnI.nil _ _, Upd.refl w⟩
    · have ht := inB_t h2
      obtain ⟨m, rfl⟩ : ∃ m : Nat, t = m := ⟨t.toNat, by omega⟩
      have HE : Hid (tbL xs e m = trueF e m xs (List.replicate xs.length 0) ∧ tbE xs e m = 0) := by constructor <;> simp [tbL, tbE, hd, h2]
      have hd2 := hd
      simp only [deB, Bool.and_eq_true] at hd2
      obtain ⟨b1, b2, b3, b4, b5⟩ := de_bd hd2.1 hd2.2
      obtain ⟨bb, off, x, rfl, hxc, -⟩ := h.get (k := 0) (by omega)
      have hxb := World.block_lt_of_cell? w _ hxc
      have HB := Lib.hid (show _ ∧ _ from ⟨b1, b2⟩)
      have HWS : Hid (∀ w', Upd [] w w' → IntsAt w' b e) := fun w' u => hs.kept0 u
      clear h hs b1 b2 hxc hd hd2
      go_enter Try.func40, Try.ntmps40
      go_wp2_with (first | (go_at_call 65; refine (l08Code_c _ _ _ _ xs e 0 _ H.out.1 H.out.2 hl hl2).mono ?_; rintro e w' ⟨rfl, rfl⟩) | (go_at_call 72; refine (l01In_c _ _ _ _).mono ?_; rintro e w' ⟨rfl, rfl⟩) | (at_make; refine wpList_mkI rfl _ _ rfl .i64 .i64 xs.length rfl rfl (by omega) (Upd.refl w) ?_; intro w2 o2 u2 s2; have HO2 := Lib.hid (show _ ∧ _ ∧ _ from ⟨o2, u2, s2⟩); clear o2 u2 s2))
      obtain ⟨p, hp⟩ : ∃ p, w.heap.size = p := ⟨_, rfl⟩
      have HU0 := Lib.hid HO2.out.2.1
      have hps := HO2.out.2.2
      have HT0 : Hid (TrS w2 w.heap.size p xs.length xs.length e (trueF e m xs (List.replicate xs.length 0)) m (.slice (some ⟨bb, off, none⟩) xs.length ca)) := by
        refine ⟨bb, off, ca, xs, List.replicate xs.length 0, rfl, by omega, (H.out.1).kept0 HU0.out, by rw [← hp]; exact HO2.out.1, rfl, by simp, HB.out.1.mono (by omega), zeros_bd _ _ (by omega), rfl⟩
      rw [hp] at hps ⊢
      have hp' : w.heap.size ≤ p := by omega
      clear HO2 hp
      have HPS : Hid (p < w2.heap.size) := hps
      clear hps
      go_loopw [0, 2] (fun lv mv wr => ∃ k : Nat, k ≤ m ∧ mv = .int .i64 k ∧ Hid (TrS wr w.heap.size p xs.length xs.length e (trueF e m xs (List.replicate xs.length 0)) k lv) ∧ Hid (Upd [] w wr) ∧ Hid (p < wr.heap.size)) (fun _ mv _ => (intOf mv).toNat)
      case atStart => exact ⟨m, by omega, rfl, HT0, HU0, HPS⟩
      case round =>
        clear HT0 HU0 HPS
        obtain ⟨k, hk, rfl, HT, HU, HPS⟩ := hrel
        obtain ⟨gb, goff, gc, now, plan, rfl, t0, t1, t2, t3, t4, t5, t6, t7⟩ := HT.out
        have HTT := Lib.hid (show _ ∧ _ ∧ _ ∧ _ ∧ _ ∧ _ from ⟨t1, t2, t3, t5, t6, t7⟩)
        have HT4 := Lib.hid t4
        have HT0 := Lib.hid t0
        clear HT t0 t1 t2 t3 t4 t5 t6 t7
        by_cases hk0 : k = 0
        · have hd : decide (0 < k) = false := by rw [hk0]; rfl
          have HR : Hid (plan = trueF e m xs (List.replicate xs.length 0)) := by
            have := HTT.out.2.2.2.2.2; rw [hk0] at this; exact this
          clear hk0
          go_wp2
          go_ret2
          rw [HE.out.1, HE.out.2, ← HR.out]
          exact ⟨_, rfl, HTT.out.2.1, HU.out⟩
        · have hk1 : 0 < k := by omega
          have hd : decide (0 < k) = true := decide_eq_true hk1
          clear hk0
          go_wp2_with fail
          refine (l08Best_n gb goff _ xs.length _ _ now e (500 + 120 * (40 - (k : Int))) _ HTT.out.2.2.1 HTT.out.1 (HWS.out _ HU.out) ⟨by omega, by omega⟩ ⟨b4, b5⟩ ⟨by omega, by omega⟩ HTT.out.2.2.2.1 HB.out.2).mono ?_
          rintro e1 w3 ⟨sp, q, rfl, hb, hu⟩
          have c1 : bSp now e = sp := by unfold bSp; rw [HTT.out.2.2.1] at hb ⊢; rw [hb]
          have c2 : bQ now e = q := by unfold bQ; rw [HTT.out.2.2.1] at hb ⊢; rw [hb]
          have hbd := bSQ now e
          rw [HTT.out.2.2.1] at hbd
          have HU3 := Lib.hid hu
          clear hb hu
          by_cases c3 : sp < 0
          · have HR : Hid (plan = trueF e m xs (List.replicate xs.length 0)) := by
              have := HTT.out.2.2.2.2.2; rw [trueF_f (by omega)] at this; exact this
            clear c1 c2 hbd
            go_wp2
            go_ret2
            rw [HE.out.1, HE.out.2, ← HR.out]
            exact ⟨_, rfl, (HTT.out.2.1).kept0 HU3.out, (HU.out).then0 HU3.out⟩
          · rw [c1, c2] at hbd
            obtain ⟨s, rfl⟩ : ∃ s : Nat, sp = s := ⟨sp.toNat, by omega⟩
            have hs1 : s < xs.length := by omega
            have hq1 : -1 ≤ q ∧ q ≤ 1 := by omega
            have HC := Lib.hid (trueF_t (plan := plan) c1 c2 hk1)
            clear c1 c2 c3 hbd
            have HP : Hid (OwnI w3 w.heap.size (.slice (some ⟨p, 0, none⟩) xs.length xs.length) plan) := (HTT.out.2.1).kept0 HU3.out
            obtain ⟨y, hy⟩ : ∃ y, plan.getD s 0 = y := ⟨_, rfl⟩
            have hyb := (HTT.out.2.2.2.2.1).get (by omega) s
            rw [hy] at hyb
            have hgy := get_of_getD (by rw [HT4.out]; exact hs1) hy
            have hcy := (HP.out).cell hgy
            have hfy := (HP.out).free s
            have i1 : (s : Int) < (xs.length : Int) := by omega
            have hku : Upd [p] w3 (w3.setCell ⟨p, s, none⟩ (.int .i64 (y + q))) := (Upd.refl w3 |>.mono (by simp)).setCell _ (.inl (by simp))
            have HPN : Hid (OwnI (w3.setCell ⟨p, s, none⟩ (.int .i64 (y + q))) w.heap.size (.slice (some ⟨p, 0, none⟩) xs.length xs.length) (addAt plan s q)) := by
              show OwnI _ _ _ _
              rw [add_getD hy]; exact (HP.out).set s (y + q) (by rw [HT4.out]; exact hs1)
            have HIN : Hid (IntsAt (w3.setCell ⟨p, s, none⟩ (.int .i64 (y + q))) (some ⟨gb, goff, none⟩) now) := ((HTT.out.1).kept0 HU3.out).kept hku (fun ad e => by cases e; simpa using HT0.out)
            have HUN : Hid (Upd [] w (w3.setCell ⟨p, s, none⟩ (.int .i64 (y + q))) ∧ p < (w3.setCell ⟨p, s, none⟩ (.int .i64 (y + q))).heap.size) := ⟨((HU.out).then0 HU3.out).setCell _ (.inr hp'), Nat.lt_of_lt_of_le HPS.out (Nat.le_trans (HU3.out).size hku.size)⟩
            clear hy hgy hku
            go_wp2_with fail
            clear hcy hfy
            generalize w3.setCell ⟨p, s, none⟩ (.int .i64 (y + q)) = w4 at HPN HIN HUN ⊢
            refine (l07One_c xs.length s q _ (by omega) hs1).mono ?_
            rintro en w5 ⟨v, rfl, h1, h2⟩
            obtain ⟨ao, co, rfl, hi1, -⟩ := h1.intsAt
            have HO := Lib.hid (show _ ∧ _ from ⟨hi1, h2⟩)
            clear h1 h2 hi1
            go_wp2_with fail
            refine (l08After_n gb goff _ xs.length b ao _ co now e (oneF xs.length s q) (500 + 120 * (40 - (k : Int))) _ HTT.out.2.2.1 ((HIN.out).kept0 HO.out.2) (HWS.out _ ((HUN.out.1).then0 HO.out.2)) HO.out.1 ⟨by omega, by omega⟩ (by omega) (oneF_length _ _ _) ⟨by omega, by omega⟩ HTT.out.2.2.2.1 HB.out.2 (oneF_bd _ _ (by omega))).mono ?_
            rintro en w6 ⟨v, rfl, h1, h2⟩
            have hae : afterF now e (oneF xs.length s q) = oneT now e s q := by rw [← HTT.out.2.2.1]; exact afterF_one now e s q (by rw [HTT.out.2.2.1]; exact hs1)
            rw [hae] at h1
            obtain ⟨g2, c2, rfl, hg1, hg2⟩ := h1.row (by rw [oneT_length, HTT.out.2.2.1]; omega)
            have h56 := (HO.out.2).size
            have HNN : Hid (TrS w6 w.heap.size p xs.length xs.length e (trueF e m xs (List.replicate xs.length 0)) (k - 1) (.slice (some ⟨g2, 0, none⟩) (oneT now e s q).length c2)) := by
              refine ⟨g2, 0, c2, oneT now e s q, addAt plan s q, by rw [oneT_length, HTT.out.2.2.1], by have := HUN.out.2; omega, h1.ints, (HPN.out).kept0 ((HO.out.2).then0 h2), by rw [oneT_length, HTT.out.2.2.1], by rw [addAt_length, HT4.out], ?_, ?_, ?_⟩
              · exact (oneT_bd HTT.out.2.2.2.1 (by omega) HB.out.2 b5 s hq1).mono (by omega)
              · exact ((HTT.out.2.2.2.2.1).addAt (by omega) s q hq1).mono (by omega)
              · rw [← HC.out]; exact HTT.out.2.2.2.2.2
            have HUN2 : Hid (Upd [] w w6 ∧ p < w6.heap.size) := ⟨((HUN.out.1).then0 HO.out.2).then0 h2, by have := HUN.out.2; have := h2.size; omega⟩
            clear h1 h2 hae
            go_wp2
            go_roundw
            case rel => exact ⟨k - 1, by omega, congrArg (Value.int .i64) (by omega), HNN, HUN2.out.1, HUN2.out.2⟩
            case measure => simp [intOf]; omega
end Go.Proofs.Ytiiljmaianfdeaa
