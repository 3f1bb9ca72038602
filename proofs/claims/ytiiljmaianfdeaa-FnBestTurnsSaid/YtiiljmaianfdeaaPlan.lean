/- The contracts of chapter 8: the first good plan with the least effort. -/
import Derived.Test.YtiiljmaianfdeaaBest
namespace Go.Proofs.Ytiiljmaianfdeaa
open Go.RowKit
set_option linter.unusedVariables false
set_option linter.unusedSimpArgs false

/-- The first that is found as q falls: m tries are left. -/
def tryF (f : Int → Option (List Int)) (eff : Nat) : Nat → Option (List Int)
  | 0 => none
  | m + 1 => (f ((m : Int) - eff)).orElse fun _ => tryF f eff m
def planF (xs e : List Int) (t : Int) : Nat → List Int → Nat → Option (List Int)
  | 0, begun, eff => if eff = 0 ∧ allB (afterF xs e begun) (-t) t = true then some begun else none
  | r + 1, begun, eff => tryF (fun q => planF xs e t r (begun ++ [q]) (eff - q.natAbs)) eff (2 * eff + 1)
theorem tryF_t {f : Int → Option (List Int)} {eff m : Nat} {q : Int} {b : List Int} (hq : q = (m : Int) - 1 - eff) (hm : 0 < m) (h : f q = some b) : tryF f eff m = some b := by
  obtain ⟨m, rfl⟩ : ∃ j, m = j + 1 := ⟨m - 1, by omega⟩
  rw [tryF, show (m : Int) - eff = q by omega, h]; rfl
theorem tryF_f {f : Int → Option (List Int)} {eff m : Nat} {q : Int} (hq : q = (m : Int) - 1 - eff) (hm : 0 < m) (h : f q = none) : tryF f eff m = tryF f eff (m - 1) := by
  obtain ⟨m, rfl⟩ : ∃ j, m = j + 1 := ⟨m - 1, by omega⟩
  rw [tryF, show (m : Int) - eff = q by omega, h]; rfl
theorem tryF_len {f : Int → Option (List Int)} {n : Nat} (hf : ∀ q b, f q = some b → b.length = n) (eff m : Nat) {b : List Int} (h : tryF f eff m = some b) : b.length = n := by
  induction m with
  | zero => simp [tryF] at h
  | succ m ih =>
    rw [tryF] at h
    cases hv : f ((m : Int) - eff) with
    | none => rw [hv] at h; exact ih h
    | some c => rw [hv] at h; simp at h; rw [← h]; exact hf _ _ hv
theorem planF_len (xs e : List Int) (t : Int) (r : Nat) (begun : List Int) (eff : Nat) {b : List Int} (h : planF xs e t r begun eff = some b) : b.length = begun.length + r := by
  induction r generalizing begun eff b with
  | zero =>
    rw [planF] at h
    split at h
    · simp at h; rw [← h]; rfl
    · simp at h
  | succ r ih =>
    rw [planF] at h
    exact tryF_len (fun q b hb => by rw [ih _ _ hb]; simp; omega) _ _ h
theorem afterPlan_n (b off c n : Nat) (a2 a3 : Option Addr) (c2 c3 : Nat) (xs ws ps : List Int) (M : Int) (w : World) (e : xs.length = n) (hts : ps.length = n) (h : IntsAt w (some ⟨b, off, none⟩) xs) (h2 : IntsAt w a2 ws) (h3 : IntsAt w a3 ps)
    (hn : 1 ≤ (n : Int) ∧ (n : Int) ≤ 10) (hl : 1 ≤ (ws.length : Int) ∧ (ws.length : Int) ≤ 3) (hM : 0 ≤ M ∧ M ≤ 1000000) (hx : AllLe M xs) (hw : AllLe 20 ws) (ht : AllLe 100 ps) :
    Calls Try.prog 68 #[.slice (some ⟨b, off, none⟩) n c, .slice a2 ws.length c2, .slice a3 n c3] w (NewI w (afterF xs ws ps)) := by
  subst e
  have := afterPlan_c b off c a2 a3 c2 c3 xs ws ps M w h h2 h3 hn hl hts hM hx hw ht
  rwa [hts] at this
/-- What planFrom answers. -/
def PlanI (B p n : Nat) (res : Option (List Int)) (begun : List Int) (r : Nat) (w : World) (en : Ending) (w' : World) : Prop :=
  ∃ f ys, en = .returned (.bool f) ∧ OwnI w' B (.slice (some ⟨p, 0, none⟩) n n) ys ∧ Upd [p] w w' ∧ ((f = true ∧ res = some ys) ∨ (f = false ∧ res = none ∧ ys = begun ++ List.replicate r 0))
theorem set_at (begun : List Int) (z q : Int) (t : List Int) : (begun ++ z :: t).set begun.length q = begun ++ q :: t := by
  rw [List.set_append_right _ _ (Nat.le_refl _)]; simp
theorem AllLe.app {M : Int} {l : List Int} (h : AllLe M l) {q : Int} (hq : -M ≤ q ∧ q ≤ M) : AllLe M (l ++ [q]) := by
  intro x hx
  rcases List.mem_append.1 hx with h1 | h1
  · exact h x h1
  · simp at h1; subst h1; exact hq
theorem iabs_natAbs (q : Int) : iabs q = q.natAbs := by unfold iabs; split <;> omega
set_option maxRecDepth 20000 in
set_option maxHeartbeats 1600000 in
theorem planFrom_n (r : Nat) : ∀ (b off c p n sb soff sc : Nat) (xs ws begun : List Int) (eff : Nat) (fi ei t : Int) (B : Nat) (w : World) (hr : begun.length + r = n) (hxl : xs.length = n) (hfi : fi = begun.length) (hei : ei = eff)
    (h : IntsAt w (some ⟨b, off, none⟩) xs) (h2 : IntsAt w (some ⟨sb, soff, none⟩) ws) (hbp : b ≠ p) (hsp : sb ≠ p) (ho : OwnI w B (.slice (some ⟨p, 0, none⟩) n n) (begun ++ List.replicate r 0))
    (hn : 1 ≤ (n : Int) ∧ (n : Int) ≤ 10) (hl : 1 ≤ (ws.length : Int) ∧ (ws.length : Int) ≤ 3) (he : eff ≤ 4) (ht : 0 ≤ t ∧ t ≤ 500) (hx : AllLe 500 xs) (hw : AllLe 20 ws) (hbg : AllLe 4 begun),
    Calls Try.prog 64 #[.slice (some ⟨b, off, none⟩) n c, .slice (some ⟨sb, soff, none⟩) ws.length sc, .slice (some ⟨p, 0, none⟩) n n, .int .i64 fi, .int .i64 ei, .int .i64 t] w (PlanI B p n (planF xs ws t r begun eff) begun r w) := by
  induction r with
  | zero =>
    intro b off c p n sb soff sc xs ws begun eff fi ei t B w hr hxl hfi hei h h2 hbp hsp ho hn hl he ht hx hw hbg
    obtain rfl : fi = (n : Int) := by omega
    have HO := Lib.hid (show OwnI w B (.slice (some ⟨p, 0, none⟩) n n) begun by simpa using ho)
    by_cases h0 : eff = 0
    · subst h0
      obtain rfl : ei = 0 := by omega
      have H := Lib.hid (show _ ∧ _ ∧ _ ∧ _ ∧ _ from ⟨h, h2, hx, hw, hbg.mono (show (4 : Int) ≤ 100 by omega)⟩)
      have HL := Lib.hid (show _ ∧ _ from ⟨hxl, (show begun.length = n by omega)⟩)
      clear h h2 hx hw hbg hxl hfi hei hr ho
      go_enter Try.func64, Try.ntmps64
      go_wp2_with fail
      refine (afterPlan_n b off _ n _ _ _ _ xs ws begun 500 _ HL.out.1 HL.out.2 H.out.1 H.out.2.1 HO.out.ints hn hl ⟨by omega, by omega⟩ H.out.2.2.1 H.out.2.2.2.1 H.out.2.2.2.2).mono ?_
      rintro en w1 ⟨v, rfl, o1, u1⟩
      obtain ⟨ar, cr, rfl, hi1, -⟩ := o1.intsAt
      have HI := Lib.hid (show _ ∧ _ from ⟨hi1, u1⟩)
      have hal : (afterF xs ws begun).length ≤ 1048576 := by rw [afterF_length, HL.out.1]; omega
      clear hi1 u1 o1
      cases ha : allB (afterF xs ws begun) (-t) t
      · have HR : Hid (planF xs ws t 0 begun 0 = none) := by show _ = _; rw [planF, if_neg (by simp [ha])]
        go_wp2_with (go_at_call 67; refine (allWithin_c _ _ _ _ _ _ HI.out.1 hal).mono ?_; rintro e w' ⟨rfl, rfl⟩)
        go_ret
        exact ⟨_, _, rfl, (HO.out).kept0 HI.out.2, (HI.out.2).mono (by simp), .inr ⟨rfl, HR.out, by simp⟩⟩
      · have HR : Hid (planF xs ws t 0 begun 0 = some begun) := by show _ = _; rw [planF, if_pos ⟨rfl, ha⟩]
        go_wp2_with (go_at_call 67; refine (allWithin_c _ _ _ _ _ _ HI.out.1 hal).mono ?_; rintro e w' ⟨rfl, rfl⟩)
        go_ret
        exact ⟨_, _, rfl, (HO.out).kept0 HI.out.2, (HI.out.2).mono (by simp), .inl ⟨rfl, HR.out⟩⟩
    · have HR : Hid (planF xs ws t 0 begun eff = none) := by show _ = _; rw [planF, if_neg (by simp [h0])]
      have hei0 : ¬ ei = 0 := by omega
      have heib : (ei == 0) = false := by simpa using hei0
      clear h h2 hx hw hbg hxl hfi hei hr ho
      go_enter Try.func64, Try.ntmps64
      go_wp2
      go_ret
      exact ⟨_, _, rfl, HO.out, (Upd.refl w).mono (by simp), .inr ⟨rfl, HR.out, by simp⟩⟩
  | succ r ih =>
    intro b off c p n sb soff sc xs ws begun eff fi ei t B w hr hxl hfi hei h h2 hbp hsp ho hn hl he ht hx hw hbg
    obtain ⟨s, hs⟩ : ∃ s, begun.length = s := ⟨_, rfl⟩
    rw [hs] at hfi hr
    subst hfi
    subst hei
    have hsn : s < n := by omega
    have hne : ((s : Int) == (n : Int)) = false := by rw [beq_eq_false_iff_ne]; omega
    have hne2 : ¬ (s : Int) = (n : Int) := by omega
    have i1 : (s : Int) < (n : Int) := by omega
    have H : Hid (∀ w', Upd [p] w w' → IntsAt w' (some ⟨b, off, none⟩) xs ∧ IntsAt w' (some ⟨sb, soff, none⟩) ws) := fun w' u => ⟨h.kept u (fun ad e => by cases e; simpa using hbp), h2.kept u (fun ad e => by cases e; simpa using hsp)⟩
    have HX := Lib.hid (show _ ∧ _ ∧ _ from ⟨hx, hw, hbg⟩)
    have HL := Lib.hid (show _ ∧ _ ∧ _ from ⟨hxl, hs, hr⟩)
    have HO0 : Hid (∃ z, OwnI w B (.slice (some ⟨p, 0, none⟩) n n) (begun ++ z :: List.replicate r 0)) := ⟨0, ho⟩
    have HU0 : Hid (Upd [p] w w) := (Upd.refl w).mono (by simp)
    have hpf : planF xs ws t (r + 1) begun eff = tryF (fun q => planF xs ws t r (begun ++ [q]) (eff - q.natAbs)) eff (2 * eff + 1) := rfl
    rw [hpf]
    obtain ⟨F, hF⟩ : ∃ F : Int → Option (List Int), F = fun q => planF xs ws t r (begun ++ [q]) (eff - q.natAbs) := ⟨_, rfl⟩
    have HF : Hid (∀ q, F q = planF xs ws t r (begun ++ [q]) (eff - q.natAbs)) := fun q => by rw [hF]
    rw [← hF]
    obtain ⟨R, hR⟩ : ∃ R, tryF F eff (2 * eff + 1) = R := ⟨_, rfl⟩
    rw [hR]
    have HR0 := Lib.hid hR
    clear h h2 hx hw hbg hxl hr ho hpf hF hR hs
    go_enter Try.func64, Try.ntmps64
    go_wp2_with fail
    go_loopw [13] (fun q wr => ∃ m : Nat, m ≤ 2 * eff + 1 ∧ q = .int .i64 ((m : Int) - 1 - eff) ∧ Hid (∃ z, OwnI wr B (.slice (some ⟨p, 0, none⟩) n n) (begun ++ z :: List.replicate r 0)) ∧ Hid (Upd [p] w wr) ∧ Hid (tryF F eff m = R)) (fun q _ => (intOf q + eff + 1).toNat)
    case atStart => exact ⟨2 * eff + 1, by omega, congrArg (Value.int .i64) (by omega), HO0, HU0, HR0⟩
    case round =>
      clear HO0 HU0 HR0
      obtain ⟨m, hm, rfl, HO, HU, HR⟩ := hrel
      obtain ⟨z, hz⟩ := HO.out
      have hzl : (begun ++ z :: List.replicate r 0)[s]? = some z := by rw [List.getElem?_append_right (by rw [HL.out.2.1]; omega), HL.out.2.1]; simp
      have hcz := hz.cell hzl
      have hfz := hz.free s
      have hsl : s < (begun ++ z :: List.replicate r 0).length := by simp; have := HL.out.2.1; omega
      have HZ := Lib.hid hz
      obtain ⟨q, hq⟩ : ∃ q, (m : Int) - 1 - eff = q := ⟨_, rfl⟩
      rw [hq]
      by_cases hm0 : m = 0
      · have hq1 : q < - (eff : Int) := by omega
        have HW : Hid (OwnI (wr.setCell ⟨p, s, none⟩ (.int .i64 0)) B (.slice (some ⟨p, 0, none⟩) n n) (begun ++ List.replicate (r + 1) 0) ∧ Upd [p] w (wr.setCell ⟨p, s, none⟩ (.int .i64 0))) := by
          refine ⟨?_, (HU.out).setCell _ (.inl (by simp))⟩
          have := hz.set s 0 hsl
          rw [← HL.out.2.1, set_at] at this
          rw [HL.out.2.1] at this; exact this
        have HRN : Hid (R = none) := by rw [← HR.out, hm0]; rfl
        clear hz hzl hm0 hq
        go_wp2
        go_ret
        exact ⟨_, _, rfl, HW.out.1, HW.out.2, .inr ⟨rfl, HRN.out, rfl⟩⟩
      · have hm1 : 0 < m := by omega
        have hq1 : - (eff : Int) ≤ q ∧ q ≤ eff := by omega
        have HW : Hid (OwnI (wr.setCell ⟨p, s, none⟩ (.int .i64 q)) B (.slice (some ⟨p, 0, none⟩) n n) ((begun ++ [q]) ++ List.replicate r 0) ∧ Upd [p] w (wr.setCell ⟨p, s, none⟩ (.int .i64 q))) := by
          refine ⟨?_, (HU.out).setCell _ (.inl (by simp))⟩
          have := hz.set s q hsl
          rw [← HL.out.2.1, set_at] at this
          rw [HL.out.2.1] at this; simpa using this
        have HM := Lib.hid (show _ ∧ _ from ⟨hm, hq⟩)
        have hia : 0 ≤ iabs q ∧ iabs q ≤ eff := ⟨by unfold iabs; split <;> omega, iabs_le hq1⟩
        have hm2 : m ≤ 9 := by omega
        clear hz hzl hm hq
        go_wp2_with (go_at_call 77; refine (abs_c _ _ (by omega)).mono ?_; rintro e w' ⟨rfl, rfl⟩)
        clear hcz hfz
        generalize wr.setCell ⟨p, s, none⟩ (.int .i64 q) = w1 at HW ⊢
        have hb4 : AllLe 4 (begun ++ [q]) := (HX.out.2.2).app (by omega)
        refine (ih b off _ p n sb soff _ xs ws (begun ++ [q]) (eff - q.natAbs) _ _ t B w1 (by have := HL.out.2; simp; omega) HL.out.1 (by have := HL.out.2.1; simp; omega) (by rw [iabs_natAbs] at hia ⊢; omega) (H.out _ HW.out.2).1 (H.out _ HW.out.2).2 hbp hsp HW.out.1 hn hl (by omega) ht HX.out.1 HX.out.2.1 hb4).mono ?_
        rintro en w2 ⟨f, ys, rfl, o1, u1, hc⟩
        have HO2 := Lib.hid (show _ ∧ _ from ⟨o1, (HW.out.2).trans u1 (fun x hx => .inl hx)⟩)
        clear o1 u1 hb4
        rcases hc with ⟨rfl, hc⟩ | ⟨rfl, hc, rfl⟩
        · have HRS : Hid (R = some ys) := by rw [← HR.out]; exact tryF_t (q := q) (HM.out.2).symm hm1 (by rw [HF.out]; exact hc)
          clear hc
          go_wp2
          go_ret
          exact ⟨_, _, rfl, HO2.out.1, HO2.out.2, .inl ⟨rfl, HRS.out⟩⟩
        · have HRN : Hid (tryF F eff (m - 1) = R) := by rw [← HR.out]; exact (tryF_f (q := q) (HM.out.2).symm hm1 (by rw [HF.out]; exact hc)).symm
          have HON : Hid (∃ z, OwnI w2 B (.slice (some ⟨p, 0, none⟩) n n) (begun ++ z :: List.replicate r 0)) := ⟨q, by simpa using HO2.out.1⟩
          clear hc
          go_wp2
          go_roundw
          case rel => exact ⟨m - 1, by have := HM.out.1; omega, congrArg (Value.int .i64) (by have := HM.out.2; omega), HON, HO2.out.2, HRN⟩
          case measure => simp [intOf]; omega
/-- The first good plan, the efforts from 5 - m on. -/
def lpF (xs e : List Int) (t : Int) : Nat → Option (List Int)
  | 0 => none
  | m + 1 => (planF xs e t xs.length [] (4 - m)).orElse fun _ => lpF xs e t m
theorem lpF_t {xs e : List Int} {t : Int} {k : Nat} {b : List Int} (hk : k ≤ 4) (h : planF xs e t xs.length [] k = some b) : lpF xs e t (5 - k) = some b := by
  rw [show 5 - k = (4 - k) + 1 by omega, lpF, show 4 - (4 - k) = k by omega, h]; rfl
theorem lpF_f {xs e : List Int} {t : Int} {k : Nat} (hk : k ≤ 4) (h : planF xs e t xs.length [] k = none) : lpF xs e t (5 - k) = lpF xs e t (5 - (k + 1)) := by
  rw [show 5 - k = (4 - k) + 1 by omega, lpF, show 4 - (4 - k) = k by omega, h, show 5 - (k + 1) = 4 - k by omega]; rfl
theorem lpF_len (xs e : List Int) (t : Int) (m : Nat) {b : List Int} (h : lpF xs e t m = some b) : b.length = xs.length := by
  induction m with
  | zero => simp [lpF] at h
  | succ m ih =>
    rw [lpF] at h
    cases hv : planF xs e t xs.length [] (4 - m) with
    | none => rw [hv] at h; exact ih h
    | some c => rw [hv] at h; simp at h; rw [← h]; have := planF_len _ _ _ _ _ _ hv; simpa using this
def lpL (xs e : List Int) (t : Int) : List Int := if deB xs e then (if inB t 0 500 then (lpF xs e t 5).getD [] else []) else []
def lpE (xs e : List Int) (t : Int) : Int := if deB xs e then (if inB t 0 500 then (if (lpF xs e t 5).isSome then 0 else 4) else 2) else 1
theorem lpL_le (xs e : List Int) (t : Int) : (lpL xs e t).length ≤ xs.length := by
  unfold lpL; split
  · split
    · cases h : lpF xs e t 5 with
      | none => simp
      | some b => have := lpF_len _ _ _ _ h; simp; omega
    · simp
  · simp
set_option maxRecDepth 20000 in
set_option maxHeartbeats 1600000 in
theorem iLeastPlan_c (a b : Option Addr) (ca cb : Nat) (xs e : List Int) (t : Int) (w : World) (h : IntsAt w a xs) (hs : IntsAt w b e) (hl : xs.length ≤ 1048576) (hl2 : e.length ≤ 1048576) :
    Calls Try.prog 24 #[.slice a xs.length ca, .slice b e.length cb, .int .i64 t] w (NewIC w (lpL xs e t) (lpE xs e t)) := by
  have H := Lib.hid (show _ ∧ _ from ⟨h, hs⟩)
  cases h1 : areB xs (-500) 500 4 10
  · have HE : Hid (lpL xs e t = [] ∧ lpE xs e t = 1) := by constructor <;> simp [lpL, lpE, deB, h1]
    clear h hs
    go_enter Try.func24, Try.ntmps24
    go_wp2_with (go_at_call 45; refine (iAreDeviations_c _ _ _ _ H.out.1 hl).mono ?_; rintro e w' ⟨rfl, rfl⟩)
    go_ret2
    rw [HE.out.1, HE.out.2]
    exact ⟨_, rfl, OwnI.nil _ _, Upd.refl w⟩
  · cases h1b : effB e
    · have HE : Hid (lpL xs e t = [] ∧ lpE xs e t = 1) := by constructor <;> simp [lpL, lpE, deB, h1, h1b]
      clear h hs
      go_enter Try.func24, Try.ntmps24
      go_wp2_with (first | (go_at_call 45; refine (iAreDeviations_c _ _ _ _ H.out.1 hl).mono ?_; rintro e w' ⟨rfl, rfl⟩) | (go_at_call 32; refine (iIsEffect_c _ _ _ _ H.out.2 hl2).mono ?_; rintro e w' ⟨rfl, rfl⟩))
      go_ret2
      rw [HE.out.1, HE.out.2]
      exact ⟨_, rfl, OwnI.nil _ _, Upd.refl w⟩
    · cases h2 : inB t 0 500
      · have HE : Hid (lpL xs e t = [] ∧ lpE xs e t = 2) := by constructor <;> simp [lpL, lpE, deB, h1, h1b, h2]
        clear h hs
        go_enter Try.func24, Try.ntmps24
        go_wp2_with (first | (go_at_call 45; refine (iAreDeviations_c _ _ _ _ H.out.1 hl).mono ?_; rintro e w' ⟨rfl, rfl⟩) | (go_at_call 32; refine (iIsEffect_c _ _ _ _ H.out.2 hl2).mono ?_; rintro e w' ⟨rfl, rfl⟩) | (go_at_call 63; refine (isTolerance_c _ _).mono ?_; rintro e w' ⟨rfl, rfl⟩))
        go_ret2
        rw [HE.out.1, HE.out.2]
        exact ⟨_, rfl, OwnI.nil _ _, Upd.refl w⟩
      · have ht := inB_t h2
        have HE : Hid (∀ R, lpF xs e t 5 = R → lpL xs e t = R.getD [] ∧ lpE xs e t = if R.isSome then 0 else 4) := by rintro R rfl; constructor <;> simp [lpL, lpE, deB, h1, h1b, h2]
        obtain ⟨b1, b2, b3, b4, b5⟩ := de_bd h1 h1b
        obtain ⟨bb, off, x, rfl, hxc, -⟩ := h.get (k := 0) (by omega)
        obtain ⟨sb, soff, sx, rfl, hsc, -⟩ := hs.get (k := 0) (by omega)
        have hsb := World.block_lt_of_cell? w _ hsc
        have hxb := World.block_lt_of_cell? w _ hxc
        have HB := Lib.hid (show _ ∧ _ from ⟨b1, b2⟩)
        have HWS : Hid (∀ w', Upd [] w w' → IntsAt w' (some ⟨bb, off, none⟩) xs ∧ IntsAt w' (some ⟨sb, soff, none⟩) e) := fun w' u => ⟨h.kept0 u, hs.kept0 u⟩
        clear h hs b1 b2 hsc hxc
        go_enter Try.func24, Try.ntmps24
        go_wp2_with (first | (go_at_call 45; refine (iAreDeviations_c _ _ _ _ H.out.1 hl).mono ?_; rintro e w' ⟨rfl, rfl⟩) | (go_at_call 32; refine (iIsEffect_c _ _ _ _ H.out.2 hl2).mono ?_; rintro e w' ⟨rfl, rfl⟩) | (go_at_call 63; refine (isTolerance_c _ _).mono ?_; rintro e w' ⟨rfl, rfl⟩) | (at_make; refine wpList_mkI rfl _ _ rfl .i64 .i64 xs.length rfl rfl (by omega) (Upd.refl w) ?_; intro w2 o2 u2 s2; have HO2 := Lib.hid (show _ ∧ _ from ⟨o2, u2⟩); clear o2 u2 s2))
        obtain ⟨p, hp⟩ : ∃ p, w.heap.size = p := ⟨_, rfl⟩
        have HP0 : Hid (OwnI w2 p (.slice (some ⟨p, 0, none⟩) xs.length xs.length) (List.replicate xs.length 0)) := by rw [← hp]; exact HO2.out.1
        have HU0 := Lib.hid HO2.out.2
        obtain ⟨R, hR⟩ : ∃ R, lpF xs e t 5 = R := ⟨_, rfl⟩
        have HR0 : Hid (lpF xs e t (5 - 0) = R) := hR
        replace HE := Lib.hid (HE.out R hR)
        have HPW := Lib.hid hp
        rw [hp] at hsb hxb ⊢
        clear HO2 hp hR
        go_loopw [9] (fun kv wr => ∃ k : Nat, k ≤ 5 ∧ kv = .int .i64 k ∧ Hid (OwnI wr p (.slice (some ⟨p, 0, none⟩) xs.length xs.length) (List.replicate xs.length 0)) ∧ Hid (Upd [] w wr) ∧ Hid (lpF xs e t (5 - k) = R)) (fun kv _ => 5 - (intOf kv).toNat)
        case atStart => exact ⟨0, by omega, rfl, HP0, HU0, HR0⟩
        case round =>
          clear HP0 HU0 HR0
          obtain ⟨k, hk, rfl, HP, HU, HR⟩ := hrel
          by_cases hk5 : k ≤ 4
          · go_wp2_with fail
            refine (planFrom_n xs.length bb off _ p xs.length sb soff _ xs e [] k _ _ t p wr (by simp) rfl rfl rfl (HWS.out _ HU.out).1 (HWS.out _ HU.out).2 (by omega) (by omega) HP.out ⟨by omega, by omega⟩ ⟨b4, b5⟩ hk5 ht HB.out.1 HB.out.2 (fun x hx => by simp at hx)).mono ?_
            rintro en w3 ⟨f, ys, rfl, o1, u1, hc⟩
            have HO3 : Hid (OwnI w3 p (.slice (some ⟨p, 0, none⟩) xs.length xs.length) ys ∧ Upd [] w w3) := ⟨o1, (HU.out).after0 u1 (by simp; have := HPW.out; omega)⟩
            clear o1 u1
            rcases hc with ⟨rfl, hc⟩ | ⟨rfl, hc, rfl⟩
            · have HRS : Hid (R = some ys) := by rw [← HR.out]; exact lpF_t hk5 hc
              clear hc
              go_wp2
              go_ret2
              rw [HE.out.1, HE.out.2, HRS.out]
              exact ⟨_, rfl, by rw [HPW.out]; exact HO3.out.1, HO3.out.2⟩
            · have HRN : Hid (lpF xs e t (5 - (k + 1)) = R) := by rw [← HR.out]; exact (lpF_f hk5 hc).symm
              have HPN : Hid (OwnI w3 p (.slice (some ⟨p, 0, none⟩) xs.length xs.length) (List.replicate xs.length 0)) := by have := HO3.out.1; rw [List.nil_append] at this; exact this
              clear hc
              go_wp2
              go_roundw
              case rel => exact ⟨k + 1, by omega, by go_num, HPN, HO3.out.2, HRN⟩
              case measure => simp [intOf]; omega
          · obtain rfl : k = 5 := by omega
            have HRN : Hid (R = none) := by rw [← HR.out]; rfl
            go_wp2
            go_ret2
            rw [HE.out.1, HE.out.2, HRN.out]
            exact ⟨_, rfl, OwnI.nil _ _, HU.out⟩
theorem altAux_bd {A : Int} (k : Nat) {ps : List Int} (h : AllLe A ps) : AllLe A (altAux k ps) := by
  induction ps generalizing k with
  | nil => exact h
  | cons p t ih =>
    intro x hx
    rw [altAux] at hx
    rcases List.mem_cons.1 hx with rfl | hx
    · exact sgn_bd k (h p (by simp))
    · exact ih (k + 1) (fun y hy => h y (by simp [hy])) x hx
theorem turnAux_bd {ws : List Int} (hw : AllLe 20 ws) (hl : (ws.length : Int) ≤ 3) (ts : List Int) : ∀ (i : Nat) (M : Int) (l : List Int), AllLe 100 ts → AllLe M l → 0 ≤ M → AllLe (M + 12000 * ts.length) (turnAux ws i ts l) := by
  induction ts with
  | nil => intro i M l _ h _; exact h.mono (by simp)
  | cons t ts ih =>
    intro i M l ht h hM
    have h1 : AllLe (M + 12000) (spread l ws i t) := (spAux_bd (K := 2000) (by omega) ws (fun x hx => by have := mul_bd (ht t (by simp)) (hw x hx); omega) 0 h hM).mono (by omega)
    have h2 := ih (i + 1) (M + 12000) _ (fun y hy => ht y (by simp [hy])) h1 (by omega)
    exact h2.mono (by simp; omega)
theorem afterF_bd {xs ws ps : List Int} {M : Int} (hx : AllLe M xs) (hM : 0 ≤ M) (hw : AllLe 20 ws) (hl : (ws.length : Int) ≤ 3) (ht : AllLe 100 ps) : AllLe (M + 12000 * ps.length) (afterF xs ws ps) := by
  have := turnAux_bd hw hl (altF ps) 0 M xs (altAux_bd 0 ht) hx hM
  rwa [altF_length] at this
theorem l08After_p (b off c n : Nat) (a2 a3 : Option Addr) (c2 c3 : Nat) (xs ws ps : List Int) (M : Int) (w : World) (e : xs.length = n) (hts : ps.length = n) (h : IntsAt w (some ⟨b, off, none⟩) xs) (h2 : IntsAt w a2 ws) (h3 : IntsAt w a3 ps)
    (hn : 1 ≤ (n : Int) ∧ (n : Int) ≤ 10) (hl : (ws.length : Int) ≤ 3) (hM : 0 ≤ M ∧ M ≤ 1000000) (hx : AllLe M xs) (hw : AllLe 20 ws) (ht : AllLe 100 ps) :
    Calls Try.prog 70 #[.slice (some ⟨b, off, none⟩) n c, .slice a2 ws.length c2, .slice a3 n c3] w (NewI w (afterF xs ws ps)) := by
  subst e
  have := l08After_c b off c a2 a3 c2 c3 xs ws ps M w h h2 h3 hn hl hts hM hx hw ht
  rwa [hts] at this
theorem l01Own_n (ad : Addr) (c n : Nat) (xs : List Int) (w : World) (e : xs.length = n) (h : IntsAt w (some ad) xs) (hl : n ≤ 1048576) :
    Calls Try.prog 58 #[.slice (some ad) n c] w (NewI w xs) := by subst e; exact l01Own_c ad c xs w h hl
/-- What l08First answers. -/
def PlanS (B : Nat) (res : Option (List Int)) (w : World) (en : Ending) (w' : World) : Prop :=
  ∃ v, en = .returned v ∧ Upd [] w w' ∧ ((∃ bs ao co, res = some bs ∧ v = .slice ao bs.length co ∧ OwnI w' B v bs) ∨ (res = none ∧ v = .slice none 0 0))
set_option maxRecDepth 20000 in
set_option maxHeartbeats 1600000 in
theorem l08First_n (r : Nat) : ∀ (b off c n : Nat) (a2 : Option Addr) (sc : Nat) (ad : Option Addr) (bl bc : Nat) (xs ws begun : List Int) (eff : Nat) (ei t : Int) (B : Nat) (w : World) (hr : begun.length + r = n) (hxl : xs.length = n) (hbl : bl = begun.length) (hei : ei = eff)
    (hne : begun = [] → ad ≠ none) (hB : B ≤ w.heap.size)
    (h : IntsAt w (some ⟨b, off, none⟩) xs) (h2 : IntsAt w a2 ws) (ho : OwnI w B (.slice ad bl bc) begun)
    (hn : 1 ≤ (n : Int) ∧ (n : Int) ≤ 10) (hl : 1 ≤ (ws.length : Int) ∧ (ws.length : Int) ≤ 3) (he : eff ≤ 4) (ht : 0 ≤ t ∧ t ≤ 500) (hx : AllLe 500 xs) (hw : AllLe 20 ws) (hbg : AllLe 4 begun),
    Calls Try.prog 66 #[.slice (some ⟨b, off, none⟩) n c, .slice a2 ws.length sc, .int .i64 t, .int .i64 ei, .slice ad bl bc] w (PlanS B (planF xs ws t r begun eff) w) := by
  induction r with
  | zero =>
    intro b off c n a2 sc ad bl bc xs ws begun eff ei t B w hr hxl hbl hei hne hB h h2 ho hn hl he ht hx hw hbg
    obtain rfl : bl = n := by omega
    have HO := Lib.hid ho
    by_cases h0 : eff = 0
    · subst h0
      obtain rfl : ei = 0 := by omega
      have H := Lib.hid (show _ ∧ _ ∧ _ ∧ _ ∧ _ from ⟨h, h2, hx, hw, hbg.mono (show (4 : Int) ≤ 100 by omega)⟩)
      have HL := Lib.hid (show _ ∧ _ from ⟨hxl, hbl⟩)
      clear h h2 hx hw hbg hxl hei hr ho hne hbl
      go_enter Try.func66, Try.ntmps66
      go_wp2_with fail
      refine (l08After_p b off _ bl _ ad _ bc xs ws begun 500 w HL.out.1 HL.out.2.symm H.out.1 H.out.2.1 HO.out.ints hn hl.2 ⟨by omega, by omega⟩ H.out.2.2.1 H.out.2.2.2.1 H.out.2.2.2.2).mono ?_
      rintro en w1 ⟨v, rfl, o1, u1⟩
      obtain ⟨ar, cr, rfl, hi1, -⟩ := o1.intsAt
      have HI := Lib.hid (show _ ∧ _ from ⟨hi1, u1⟩)
      have hal : (afterF xs ws begun).length ≤ 1048576 := by rw [afterF_length, HL.out.1]; omega
      have HBD : Hid (AllLe 1000000000000 (afterF xs ws begun)) := (afterF_bd H.out.2.2.1 (by omega) H.out.2.2.2.1 hl.2 H.out.2.2.2.2).mono (by have := HL.out.2; omega)
      clear hi1 u1 o1
      cases ha : allB (afterF xs ws begun) (-t) t
      · have HR : Hid (planF xs ws t 0 begun 0 = none) := by show _ = _; rw [planF, if_neg (by simp [ha])]
        go_wp2_with (go_at_call 88; refine (l08True_c _ _ _ _ _ HI.out.1 hal HBD.out).mono ?_; rintro e w' ⟨rfl, rfl⟩)
        go_ret
        exact ⟨_, rfl, HI.out.2, .inr ⟨HR.out, rfl⟩⟩
      · have HR : Hid (planF xs ws t 0 begun 0 = some begun) := by show _ = _; rw [planF, if_pos ⟨rfl, ha⟩]
        go_wp2_with (go_at_call 88; refine (l08True_c _ _ _ _ _ HI.out.1 hal HBD.out).mono ?_; rintro e w' ⟨rfl, rfl⟩)
        go_ret
        exact ⟨_, rfl, HI.out.2, .inl ⟨begun, ad, bc, HR.out, congrArg (fun z => Value.slice ad z bc) HL.out.2, (HO.out).kept0 HI.out.2⟩⟩
    · have HR : Hid (planF xs ws t 0 begun eff = none) := by show _ = _; rw [planF, if_neg (by simp [h0])]
      have hei0 : ¬ ei = 0 := by omega
      have heib : (ei == 0) = false := by simpa using hei0
      clear h h2 hx hw hbg hxl hei hr ho hne hbl
      go_enter Try.func66, Try.ntmps66
      go_wp2
      go_ret
      exact ⟨_, rfl, Upd.refl w, .inr ⟨HR.out, rfl⟩⟩
  | succ r ih =>
    intro b off c n a2 sc ad bl bc xs ws begun eff ei t B w hr hxl hbl hei hne hB h h2 ho hn hl he ht hx hw hbg
    obtain ⟨ad, rfl⟩ : ∃ ad', ad = some ad' := by
      cases ad with
      | some ad' => exact ⟨ad', rfl⟩
      | none =>
        exfalso
        have hb : 0 < begun.length := by
          cases begun with
          | nil => exact absurd rfl (hne rfl)
          | cons _ _ => simp
        obtain ⟨g, c, e, -, -⟩ := ho.row hb
        simp at e
    subst hbl
    subst hei
    obtain ⟨s, hs⟩ : ∃ s, begun.length = s := ⟨_, rfl⟩
    have hsn : (s : Int) < n := by omega
    have hneq : ((s : Int) == (n : Int)) = false := by rw [beq_eq_false_iff_ne]; omega
    have hneq2 : ¬ (s : Int) = (n : Int) := by omega
    have H : Hid (∀ w', Upd [] w w' → IntsAt w' (some ⟨b, off, none⟩) xs ∧ IntsAt w' a2 ws ∧ IntsAt w' (some ad) begun) := fun w' u => ⟨h.kept0 u, h2.kept0 u, ho.ints.kept0 u⟩
    have HX := Lib.hid (show _ ∧ _ ∧ _ from ⟨hx, hw, hbg⟩)
    have HL := Lib.hid (show _ ∧ _ ∧ _ from ⟨hxl, hs, hr⟩)
    have HU0 : Hid (Upd [] w w) := Upd.refl w
    have hpf : planF xs ws t (r + 1) begun eff = tryF (fun q => planF xs ws t r (begun ++ [q]) (eff - q.natAbs)) eff (2 * eff + 1) := rfl
    rw [hpf]
    obtain ⟨F, hF⟩ : ∃ F : Int → Option (List Int), F = fun q => planF xs ws t r (begun ++ [q]) (eff - q.natAbs) := ⟨_, rfl⟩
    have HF : Hid (∀ q, F q = planF xs ws t r (begun ++ [q]) (eff - q.natAbs)) := fun q => by rw [hF]
    rw [← hF]
    obtain ⟨R, hR⟩ : ∃ R, tryF F eff (2 * eff + 1) = R := ⟨_, rfl⟩
    rw [hR]
    have HR0 := Lib.hid hR
    have HHS := Lib.hid hs
    rw [hs]
    have hB' := hB
    clear h h2 hx hw hbg hxl hr ho hpf hF hR hne hs
    go_enter Try.func66, Try.ntmps66
    go_wp2_with fail
    go_loopw [11] (fun q wr => ∃ m : Nat, m ≤ 2 * eff + 1 ∧ q = .int .i64 ((m : Int) - 1 - eff) ∧ Hid (Upd [] w wr) ∧ Hid (tryF F eff m = R)) (fun q _ => (intOf q + eff + 1).toNat)
    case atStart => exact ⟨2 * eff + 1, by omega, congrArg (Value.int .i64) (by omega), HU0, HR0⟩
    case round =>
      clear HU0 HR0
      obtain ⟨m, hm, rfl, HU, HR⟩ := hrel
      obtain ⟨q, hq⟩ : ∃ q, (m : Int) - 1 - eff = q := ⟨_, rfl⟩
      rw [hq]
      by_cases hm0 : m = 0
      · have hq1 : q < - (eff : Int) := by omega
        have HRN : Hid (R = none) := by rw [← HR.out, hm0]; rfl
        clear hm0 hq
        go_wp2
        go_ret
        exact ⟨_, rfl, HU.out, .inr ⟨HRN.out, rfl⟩⟩
      · have hm1 : 0 < m := by omega
        have hq1 : - (eff : Int) ≤ q ∧ q ≤ eff := by omega
        have HM := Lib.hid (show _ ∧ _ from ⟨hm, hq⟩)
        have hia : 0 ≤ iabs q ∧ iabs q ≤ eff := ⟨by unfold iabs; split <;> omega, iabs_le hq1⟩
        have hm2 : m ≤ 9 := by omega
        have hs10 : s ≤ 10 := by omega
        clear hm hq
        go_wp2_with (go_at_call 78; refine (l01Abs_c _ _ (by omega)).mono ?_; rintro e w' ⟨rfl, rfl⟩)
        refine (l01Own_n ad _ s begun _ HHS.out (H.out _ HU.out).2.2 (by omega)).mono ?_
        rintro en w1 ⟨v, rfl, o1, u1⟩
        have HO1 := Lib.hid (show _ ∧ _ from ⟨o1, u1⟩)
        have hbl2 : begun.length ≤ 2097152 := by have := HHS.out; omega
        clear o1 u1
        go_wp2_with (at_builtin; refine wpList_appI (w0 := wr) rfl _ _ rfl v begun q rfl rfl HO1.out.1 HO1.out.2 hbl2 ?_; intro v2 w2 k1 k2; have HO2 := Lib.hid (show _ ∧ _ from ⟨k1, k2⟩); clear k1 k2)
        obtain ⟨g, gc, rfl, hg1, hg2⟩ := HO2.out.1.row (by simp)
        have hb4 : AllLe 4 (begun ++ [q]) := (HX.out.2.2).app (by omega)
        have HU2 : Hid (Upd [] w w2) := (HU.out).then0 HO2.out.2
        refine (ih b off _ n a2 _ (some ⟨g, 0, none⟩) _ gc xs ws (begun ++ [q]) (eff - q.natAbs) _ t wr.heap.size w2 (by have := HL.out.2; simp; omega) HL.out.1 rfl (by rw [iabs_natAbs] at hia ⊢; omega) (by simp) (HO2.out.2).size (H.out _ HU2.out).1 (H.out _ HU2.out).2.1 HO2.out.1 hn hl (by omega) ht HX.out.1 HX.out.2.1 hb4).mono ?_
        rintro en w3 ⟨v3, rfl, u3, hc⟩
        have HU3 : Hid (Upd [] w w3) := (HU2.out).then0 u3
        clear hb4 u3
        rcases hc with ⟨bs, ao, co, hc, rfl, o3⟩ | ⟨hc, rfl⟩
        · have hbs : 0 < bs.length := by rw [planF_len _ _ _ _ _ _ hc]; simp; omega
          have hbs2 : decide (0 < bs.length) = true := decide_eq_true hbs
          have HRS : Hid (R = some bs ∧ OwnI w3 B (.slice ao bs.length co) bs) := ⟨by rw [← HR.out]; exact tryF_t (q := q) (HM.out.2).symm hm1 (by rw [HF.out]; exact hc), o3.mono (by have := (HU.out).size; omega)⟩
          clear hc o3
          go_wp2
          go_ret
          exact ⟨_, rfl, HU3.out, .inl ⟨bs, ao, co, HRS.out.1, rfl, HRS.out.2⟩⟩
        · have HRN : Hid (tryF F eff (m - 1) = R) := by rw [← HR.out]; exact (tryF_f (q := q) (HM.out.2).symm hm1 (by rw [HF.out]; exact hc)).symm
          clear hc
          go_wp2
          go_roundw
          case rel => exact ⟨m - 1, by have := HM.out.1; omega, congrArg (Value.int .i64) (by have := HM.out.2; omega), HU3, HRN⟩
          case measure => simp [intOf]; omega
set_option maxRecDepth 20000 in
set_option maxHeartbeats 1600000 in
theorem sLeastPlan_c (a b : Option Addr) (ca cb : Nat) (xs e : List Int) (t : Int) (w : World) (h : IntsAt w a xs) (hs : IntsAt w b e) (hl : xs.length ≤ 1048576) (hl2 : e.length ≤ 1048576) :
    Calls Try.prog 25 #[.slice a xs.length ca, .slice b e.length cb, .int .i64 t] w (NewIC w (lpL xs e t) (lpE xs e t)) := by
  have H := Lib.hid (show _ ∧ _ from ⟨h, hs⟩)
  cases hd : deB xs e
  · have HE : Hid (lpL xs e t = [] ∧ lpE xs e t = 1) := by constructor <;> simp [lpL, lpE, hd]
    have hc : codeD xs e t = 1 := by simp [codeD, hd]
    clear h hs
    go_enter Try.func25, Try.ntmps25
    go_wp2_with (go_at_call 65; refine (l08Code_c _ _ _ _ xs e t _ H.out.1 H.out.2 hl hl2).mono ?_; rintro e w' ⟨rfl, rfl⟩)
    go_ret2
    rw [HE.out.1, HE.out.2]
    exact ⟨_, rfl, OwnI.nil _ _, Upd.refl w⟩
  · cases h2 : inB t 0 500
    · have HE : Hid (lpL xs e t = [] ∧ lpE xs e t = 2) := by constructor <;> simp [lpL, lpE, hd, h2]
      have hc : codeD xs e t = 2 := by simp [codeD, hd, h2]
      clear h hs
      go_enter Try.func25, Try.ntmps25
      go_wp2_with (go_at_call 65; refine (l08Code_c _ _ _ _ xs e t _ H.out.1 H.out.2 hl hl2).mono ?_; rintro e w' ⟨rfl, rfl⟩)
      go_ret2
      rw [HE.out.1, HE.out.2]
      exact ⟨_, rfl, OwnI.nil _ _, Upd.refl w⟩
    · have hc : codeD xs e t = 0 := by simp [codeD, hd, h2]
      have ht := inB_t h2
      have HE : Hid (∀ R, lpF xs e t 5 = R → lpL xs e t = R.getD [] ∧ lpE xs e t = if R.isSome then 0 else 4) := by rintro R rfl; constructor <;> simp [lpL, lpE, hd, h2]
      have hd2 := hd
      simp only [deB, Bool.and_eq_true] at hd2
      obtain ⟨b1, b2, b3, b4, b5⟩ := de_bd hd2.1 hd2.2
      obtain ⟨bb, off, x, rfl, -, -⟩ := h.get (k := 0) (by omega)
      have HB := Lib.hid (show _ ∧ _ from ⟨b1, b2⟩)
      have HWS : Hid (∀ w', Upd [] w w' → IntsAt w' (some ⟨bb, off, none⟩) xs ∧ IntsAt w' b e) := fun w' u => ⟨h.kept0 u, hs.kept0 u⟩
      have HU0 : Hid (Upd [] w w) := Upd.refl w
      obtain ⟨R, hR⟩ : ∃ R, lpF xs e t 5 = R := ⟨_, rfl⟩
      have HR0 : Hid (lpF xs e t (5 - 0) = R) := hR
      replace HE := Lib.hid (HE.out R hR)
      clear h hs b1 b2 hd hd2 hR
      go_enter Try.func25, Try.ntmps25
      go_wp2_with (go_at_call 65; refine (l08Code_c _ _ _ _ xs e t _ H.out.1 H.out.2 hl hl2).mono ?_; rintro e w' ⟨rfl, rfl⟩)
      go_loopw [9] (fun kv wr => ∃ k : Nat, k ≤ 5 ∧ kv = .int .i64 k ∧ Hid (Upd [] w wr) ∧ Hid (lpF xs e t (5 - k) = R)) (fun kv _ => 5 - (intOf kv).toNat)
      case atStart => exact ⟨0, by omega, rfl, HU0, HR0⟩
      case round =>
        clear HU0 HR0
        obtain ⟨k, hk, rfl, HU, HR⟩ := hrel
        by_cases hk5 : k ≤ 4
        · have HLT : Hid (OwnI (wr.alloc (.cells #[] 2)) wr.heap.size (.slice (some ⟨wr.heap.size, 0, none⟩) 0 0) [] ∧ Upd [] w (wr.alloc (.cells #[] 2)) ∧ wr.heap.size ≤ (wr.alloc (.cells #[] 2)).heap.size) := ⟨OwnI.lit (Upd.refl wr), (HU.out).alloc _, ((Upd.refl wr).alloc _).size⟩
          go_wp2_with fail
          refine (l08First_n xs.length bb off _ xs.length b _ (some ⟨wr.heap.size, 0, none⟩) 0 0 xs e [] k _ t wr.heap.size _ (by simp) rfl rfl rfl (by simp) HLT.out.2.2 (HWS.out _ HLT.out.2.1).1 (HWS.out _ HLT.out.2.1).2 HLT.out.1 ⟨by omega, by omega⟩ ⟨b4, b5⟩ hk5 ht HB.out.1 HB.out.2 (fun x hx => by simp at hx)).mono ?_
          rintro en w3 ⟨v, rfl, u3, hc⟩
          have HU3 : Hid (Upd [] w w3) := (HLT.out.2.1).then0 u3
          clear u3
          rcases hc with ⟨bs, ao, co, hc, rfl, o3⟩ | ⟨hc, rfl⟩
          · have hbs : 0 < bs.length := by rw [planF_len _ _ _ _ _ _ hc]; simp; omega
            have hbs2 : decide (0 < bs.length) = true := decide_eq_true hbs
            have HRS : Hid (R = some bs ∧ OwnI w3 w.heap.size (.slice ao bs.length co) bs) := ⟨by rw [← HR.out]; exact lpF_t hk5 hc, o3.mono (HU.out).size⟩
            clear hc o3
            go_wp2
            go_ret2
            rw [HE.out.1, HE.out.2, HRS.out.1]
            exact ⟨_, rfl, HRS.out.2, HU3.out⟩
          · have HRN : Hid (lpF xs e t (5 - (k + 1)) = R) := by rw [← HR.out]; exact (lpF_f hk5 hc).symm
            clear hc
            go_wp2
            go_roundw
            case rel => exact ⟨k + 1, by omega, by go_num, HU3, HRN⟩
            case measure => simp [intOf]; omega
        · obtain rfl : k = 5 := by omega
          have HRN : Hid (R = none) := by rw [← HR.out]; rfl
          go_wp2
          go_ret2
          rw [HE.out.1, HE.out.2, HRN.out]
          exact ⟨_, rfl, OwnI.nil _ _, HU.out⟩
end Go.Proofs.Ytiiljmaianfdeaa
