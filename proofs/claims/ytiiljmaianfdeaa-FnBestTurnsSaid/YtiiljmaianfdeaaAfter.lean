/- The contracts of chapter 8: what a plan does. -/
import Derived.Test.YtiiljmaianfdeaaDev
import Derived.Test.YtiiljmaianfdeaaSpTurn
namespace Go.Proofs.Ytiiljmaianfdeaa
open Go.RowKit
set_option linter.unusedVariables false
set_option linter.unusedSimpArgs false

/-- The quarters of spoke k as they are put to its place: the other way round for an even one. -/
def sgn (k : Nat) (q : Int) : Int := if k % 2 = 0 then -q else q
theorem sgn_bd (k : Nat) {q A : Int} (h : -A ≤ q ∧ q ≤ A) : -A ≤ sgn k q ∧ sgn k q ≤ A := by unfold sgn; split <;> omega
theorem sgn_cases (k : Nat) (q : Int) : (((k : Int) % 2 == 0) = true ∧ sgn k q = -q) ∨ (((k : Int) % 2 == 0) = false ∧ sgn k q = q) := by
  by_cases h : k % 2 = 0
  · left; exact ⟨by rw [beq_iff_eq]; omega, if_pos h⟩
  · right; exact ⟨by rw [beq_eq_false_iff_ne]; omega, if_neg h⟩
def altAux : Nat → List Int → List Int
  | _, [] => []
  | k, q :: t => sgn k q :: altAux (k + 1) t
def altF (ps : List Int) : List Int := altAux 0 ps
theorem altAux_length (k : Nat) (ps : List Int) : (altAux k ps).length = ps.length := by
  induction ps generalizing k with
  | nil => rfl
  | cons p t ih => simp [altAux, ih]
theorem altF_length (ps : List Int) : (altF ps).length = ps.length := altAux_length 0 ps
theorem altAux_get (i k : Nat) (ps : List Int) (p : Int) (h : ps[k]? = some p) : (altAux i ps)[k]? = some (sgn (i + k) p) := by
  induction ps generalizing i k with
  | nil => simp at h
  | cons q t ih =>
    cases k with
    | zero => simp at h; subst h; simp [altAux]
    | succ k => rw [altAux, List.getElem?_cons_succ, ih (i + 1) k (by simpa using h), show i + 1 + k = i + (k + 1) by omega]
theorem altF_get {ps : List Int} {k : Nat} {p : Int} (h : ps[k]? = some p) : (altF ps)[k]? = some (sgn k p) := by
  have := altAux_get 0 k ps p h; rwa [Nat.zero_add] at this
/-- The deviations after a plan. -/
def afterF (xs e ps : List Int) : List Int := turnF xs e (altF ps)
theorem afterF_length (xs e ps : List Int) : (afterF xs e ps).length = xs.length := turnF_length ..
set_option maxRecDepth 20000 in
set_option maxHeartbeats 2000000 in
theorem l08After_c (b off c : Nat) (a2 a3 : Option Addr) (c2 c3 : Nat) (xs ws ps : List Int) (M : Int) (w : World) (h : IntsAt w (some ⟨b, off, none⟩) xs) (h2 : IntsAt w a2 ws) (h3 : IntsAt w a3 ps)
    (hn : 1 ≤ (xs.length : Int) ∧ (xs.length : Int) ≤ 10) (hl : (ws.length : Int) ≤ 3) (hts : ps.length = xs.length) (hM : 0 ≤ M ∧ M ≤ 1000000) (hx : AllLe M xs) (hw : AllLe 20 ws) (ht : AllLe 100 ps) :
    Calls Try.prog 70 #[.slice (some ⟨b, off, none⟩) xs.length c, .slice a2 ws.length c2, .slice a3 ps.length c3] w (NewI w (afterF xs ws ps)) := by
  have H := Lib.hid h
  have HWS : Hid (∀ w', Upd [] w w' → IntsAt w' a2 ws) := fun w' u => h2.kept0 u
  have HTS : Hid (∀ w', Upd [] w w' → IntsAt w' a3 ps) := fun w' u => h3.kept0 u
  have HL := Lib.hid hts
  have HW := Lib.hid hw
  have HT := Lib.hid ht
  have hl2 : (ps.length : Int) ≤ xs.length ∧ (xs.length : Int) ≤ ps.length := by omega
  clear h h2 h3 hts hw ht
  go_enter Try.func70, Try.ntmps70
  go_wp2_with fail
  refine (l01Own_c _ _ _ _ H.out (by omega)).mono ?_
  rintro e w1 ⟨v, rfl, h1, h2⟩
  obtain ⟨g, cap, rfl, hg1, hg2⟩ := h1.row (by omega)
  have HU0 := Lib.hid h2
  have HT0 : Hid (Tn w1 w.heap.size g cap xs ws (altF ps) M 12000 0) := ⟨xs, h1, hx.mono (by omega), rfl, rfl⟩
  clear h1 h2 hx
  go_wp2_with fail
  go_loopw [9] (fun v wr => ∃ k : Nat, k ≤ xs.length ∧ v = .int .i64 k ∧ Hid (Tn wr w.heap.size g cap xs ws (altF ps) M 12000 k) ∧ Hid (Upd [] w wr)) (fun v _ => xs.length - (intOf v).toNat)
  case atStart => exact ⟨0, by omega, rfl, HT0, HU0⟩
  case round =>
    clear HT0 HU0
    obtain ⟨k, hk, rfl, HTn, HU⟩ := hrel
    by_cases hlt : k < xs.length
    · obtain ⟨wo, ewo⟩ : ∃ wo : World, wo = wr := ⟨_, rfl⟩
      subst ewo
      obtain ⟨zs, z1, z2, z3, z4⟩ := HTn.out
      obtain ⟨tb, toff, p, rfl, hct, hpk⟩ := (HTS.out _ HU.out).get (k := k) (by have := HL.out; omega)
      have hp1 := HT.out p (mem_of_get hpk.out)
      obtain ⟨t, hte⟩ : ∃ t, sgn k p = t := ⟨_, rfl⟩
      have ht1 : -100 ≤ t ∧ t ≤ 100 := by rw [← hte]; exact sgn_bd k hp1
      have htk : Hid ((altF ps)[k]? = some t) := by show _ = _; rw [← hte]; exact altF_get hpk.out
      have HQ : Hid (∀ x, x ∈ ws → -2000 ≤ t * x ∧ t * x ≤ 2000) := fun x hx => by have := mul_bd ht1 (HW.out x hx); omega
      have hkM : 0 ≤ 12000 * (k : Int) ∧ 12000 * (k : Int) ≤ 120000 := by omega
      have HS0 : Hid (Sp wo w.heap.size g cap zs ws k t 2000 (M + 12000 * k) 0 ∧ zs.length = xs.length) := ⟨⟨zs, by rw [z3]; exact z1, z2.mono (by omega), rfl, rfl⟩, z3⟩
      have HZ := Lib.hid z4
      clear z1 z2 z3 z4 HTn hp1
      have hpar : (((k : Int) % 2 == 0) = true ∧ -p = t) ∨ (((k : Int) % 2 == 0) = false ∧ p = t) := by
        rcases sgn_cases k p with h | h
        · left; exact ⟨h.1, by rw [← hte]; exact h.2.symm⟩
        · right; exact ⟨h.1, by rw [← hte]; exact h.2.symm⟩
      have HTE := Lib.hid hte
      clear hte
      rcases hpar with ⟨hpb, hpt⟩ | ⟨hpb, hpt⟩
      all_goals
        go_wp2
        have HPT := Lib.hid hpt
        clear hpt hct hpb
        go_loopw [11] (fun v wr => ∃ j : Nat, j ≤ ws.length ∧ v = .int .i64 j ∧ Hid (Sp wr w.heap.size g cap zs ws k t 2000 (M + 12000 * k) j ∧ zs.length = xs.length) ∧ Hid (Upd [] w wr)) (fun v _ => ws.length - (intOf v).toNat)
        case atStart => exact ⟨0, by omega, rfl, HS0, HU⟩
        case round =>
          clear HS0 HU
          obtain ⟨j, hj, rfl, HS, HU⟩ := hrel
          by_cases hjl : j < ws.length
          · obtain ⟨bb, off2, x, rfl, hcx, hx⟩ := (HWS.out _ HU.out).get hjl
            have hqx := HQ.out x (mem_of_get hx.out)
            obtain ⟨⟨ys, h1, h2, h3, h4⟩, hzl⟩ := HS.out
            rw [hzl] at h1 h3
            have hkK : 2 * 2000 * (j : Int) ≤ 12000 := by omega
            obtain ⟨p1, HP1⟩ : ∃ p, Hid (pos ((k : Int) - j) xs.length = p) := ⟨_, rfl⟩
            have hp1 : p1 < xs.length := by rw [← HP1.out]; exact pos_lt _ (by omega)
            obtain ⟨y1, hy1⟩ : ∃ y, ys.getD p1 0 = y := ⟨_, rfl⟩
            have hb1 := h2.get (by omega) p1
            rw [hy1] at hb1
            have hg1' := get_of_getD (by omega) hy1
            have hc1 := h1.cell hg1'
            have i1 : (p1 : Int) < (xs.length : Int) := by omega
            have i3 : (j : Int) < (ws.length : Int) := by omega
            have HH := Lib.hid (show _ ∧ _ ∧ _ ∧ _ from ⟨h1, h2, h3, h4⟩)
            have HY1 := Lib.hid hy1
            have HZL := Lib.hid hzl
            clear h1 h2 h3 h4 hy1 hg1' hzl HS
            have HB1 : Hid (-9223372036854775807 ≤ (k : Int) - j ∧ (k : Int) - j ≤ 9223372036854775807) := by constructor <;> omega
            have HB2 : Hid (1 ≤ (xs.length : Int) ∧ (xs.length : Int) ≤ 4611686018427387903) := by constructor <;> omega
            have hw1 : IntKind.i64.wrap ((k : Int) - j) = (k : Int) - j := IntWalk.i64_in _ (by omega)
            have hw2 : IntKind.i64.wrap (t * x) = t * x := IntWalk.i64_in _ (by omega)
            have hw3 : IntKind.i64.wrap (y1 + t * x) = y1 + t * x := IntWalk.i64_in _ (by omega)
            go_wp2
            refine wp_region_still_tail 22 (by kernel_rfl) (by kernel_rfl) ?_
            simp only [List.take_succ_cons, List.take_zero, List.drop_succ_cons, List.drop_zero]
            repeat (first | still_step | still_call (stillC (l01Mod_p _ _ p1 _ HB1.out HB2.out HP1.out)))
            refine wpStill_nil ?_
            clear hw1 hw2 hw3 hc1 hcx
            change wpList _ _ _ _ _ wr.drew
            have HU2 : Hid (Upd [] w wr.drew) := (HU.out).drew
            have HH2 : Hid (OwnI wr.drew w.heap.size (.slice (some ⟨g, 0, none⟩) xs.length cap) ys) := HH.out.1.kept0 (Upd.refl wr).drew
            generalize wr.drew = w2 at HU2 HH2 ⊢
            obtain ⟨-, h2, h3, h4⟩ := HH.out
            have hc1 := HH2.out.cell (get_of_getD (by omega) HY1.out)
            have hf1 := HH2.out.free p1
            have hO1 := HH2.out.set p1 (y1 + t * x) (by omega)
            have hA1 : AllLe (M + 12000 * (k : Int) + 2 * 2000 * j + 2000) (ys.set p1 (y1 + t * x)) := by rw [← add_getD HY1.out]; exact h2.addAt (by omega) _ _ hqx
            have hu3 : Upd [] w (w2.setCell ⟨g, p1, none⟩ (.int .i64 (y1 + t * x))) := (HU2.out).setCell _ (.inr hg1)
            by_cases hj0 : j = 0
            · have hd : ¬ 0 < j := by omega
              have hs : spStep xs.length k t j x ys = ys.set p1 (y1 + t * x) := by rw [spStep, if_neg hd, HP1.out, add_getD HY1.out]
              have HN : Hid (Sp (w2.setCell ⟨g, p1, none⟩ (.int .i64 (y1 + t * x))) w.heap.size g cap zs ws k t 2000 (M + 12000 * k) (j + 1) ∧ zs.length = xs.length) := by
                refine ⟨⟨_, by rw [HZL.out]; exact hO1, hA1.mono (by omega), by simp [h3, HZL.out], ?_⟩, HZL.out⟩
                rw [HZL.out, ← hs, ← spAux_cons hx.out, ← HZL.out]; exact h4
              have HU3 := Lib.hid hu3
              have hd2 : decide (0 < j) = false := decide_eq_false hd
              clear h2 h3 h4 hO1 hA1 hu3 hs hd hj0
              go_wp2
              go_roundw
              case rel => exact ⟨j + 1, by omega, by go_num, HN, HU3⟩
              case measure => simp [intOf]; omega
            · have hd : 0 < j := by omega
              obtain ⟨p2, HP2⟩ : ∃ p, Hid (pos ((k : Int) + j) xs.length = p) := ⟨_, rfl⟩
              have hp2 : p2 < xs.length := by rw [← HP2.out]; exact pos_lt _ (by omega)
              obtain ⟨y2, hy2⟩ : ∃ y, (ys.set p1 (y1 + t * x)).getD p2 0 = y := ⟨_, rfl⟩
              have hb2 := hA1.get (by omega) p2
              rw [hy2] at hb2
              have hs : spStep xs.length k t j x ys = (ys.set p1 (y1 + t * x)).set p2 (y2 + t * x) := by
                rw [spStep, if_pos hd, HP1.out, HP2.out, add_getD HY1.out, add_getD hy2]
              have HO3 : Hid (OwnI (w2.setCell ⟨g, p1, none⟩ (.int .i64 (y1 + t * x))) w.heap.size (.slice (some ⟨g, 0, none⟩) xs.length cap) (ys.set p1 (y1 + t * x)) ∧ Upd [] w (w2.setCell ⟨g, p1, none⟩ (.int .i64 (y1 + t * x)))) := ⟨hO1, hu3⟩
              have HA1 := Lib.hid hA1
              have HY2 := Lib.hid hy2
              have HS2 := Lib.hid hs
              have HH3 := Lib.hid (show _ ∧ _ from ⟨h3, h4⟩)
              clear h2 h3 h4 hO1 hA1 hu3 hs hy2 hj0
              go_wp2
              clear hc1 hf1
              generalize w2.setCell ⟨g, p1, none⟩ (.int .i64 (y1 + t * x)) = w3 at HO3 ⊢
              obtain ⟨bb', off2', x', e', hcx, hx'⟩ := (HWS.out _ HO3.out.2).get hjl
              cases e'
              obtain rfl : x = x' := by have := hx.out; rw [hx'.out] at this; simpa using this.symm
              have hc2 := HO3.out.1.cell (get_of_getD (by simp; have := HH3.out.1; omega) HY2.out)
              have i4 : (p2 : Int) < (xs.length : Int) := by omega
              have HB3 : Hid (-9223372036854775807 ≤ (k : Int) + j ∧ (k : Int) + j ≤ 9223372036854775807) := by constructor <;> omega
              have hw1 : IntKind.i64.wrap ((k : Int) + j) = (k : Int) + j := IntWalk.i64_in _ (by omega)
              have hw2 : IntKind.i64.wrap (t * x) = t * x := IntWalk.i64_in _ (by omega)
              have hw3 : IntKind.i64.wrap (y2 + t * x) = y2 + t * x := IntWalk.i64_in _ (by omega)
              refine wp_region_still_tail 22 (by kernel_rfl) (by kernel_rfl) ?_
              simp only [List.take_succ_cons, List.take_zero, List.drop_succ_cons, List.drop_zero]
              repeat (first | still_step | still_call (stillC (l01Mod_p _ _ p2 _ HB3.out HB2.out HP2.out)))
              refine wpStill_nil ?_
              clear hw1 hw2 hw3 hc2 hcx
              change wpList _ _ _ _ _ w3.drew
              have HU4 : Hid (Upd [] w w3.drew) := (HO3.out.2).drew
              have HH4 : Hid (OwnI w3.drew w.heap.size (.slice (some ⟨g, 0, none⟩) xs.length cap) (ys.set p1 (y1 + t * x))) := HO3.out.1.kept0 (Upd.refl w3).drew
              generalize w3.drew = w4 at HU4 HH4 ⊢
              have hc2 := HH4.out.cell (get_of_getD (by simp; have := HH3.out.1; omega) HY2.out)
              have hf2 := HH4.out.free p2
              have HN : Hid (Sp (w4.setCell ⟨g, p2, none⟩ (.int .i64 (y2 + t * x))) w.heap.size g cap zs ws k t 2000 (M + 12000 * k) (j + 1) ∧ zs.length = xs.length) := by
                obtain ⟨h3, h4⟩ := HH3.out
                refine ⟨⟨_, by rw [HZL.out]; exact HH4.out.set p2 (y2 + t * x) (by simp; omega), ?_, by simp [h3, HZL.out], ?_⟩, HZL.out⟩
                · rw [← add_getD HY2.out]
                  exact (HA1.out.addAt (by omega) _ _ hqx).mono (by omega)
                · rw [HZL.out, ← HS2.out, ← spAux_cons hx.out, ← HZL.out]; exact h4
              have HU5 : Hid (Upd [] w (w4.setCell ⟨g, p2, none⟩ (.int .i64 (y2 + t * x)))) := (HU4.out).setCell _ (.inr hg1)
              go_wp2
              go_roundw
              case rel => exact ⟨j + 1, by omega, by go_num, HN, HU5⟩
              case measure => simp [intOf]; omega
          · obtain rfl : j = ws.length := by omega
            have HN : Hid (Tn wr w.heap.size g cap xs ws (altF ps) M 12000 (k + 1)) := by
              obtain ⟨⟨ys, h1, h2, h3, h4⟩, h5⟩ := HS.out
              rw [h5] at h1 h3
              refine ⟨ys, h1, h2.mono (by omega), h3, ?_⟩
              rw [List.drop_length] at h4
              rw [show ys = spread zs ws k t from h4, ← turnAux_cons htk.out]; exact HZ.out
            go_wp2
            go_roundw
            case rel => exact ⟨k + 1, by omega, by go_num, HN, HU⟩
            case measure => simp [intOf]; omega
    · obtain rfl : k = xs.length := by omega
      go_wp2
      go_ret
      obtain ⟨ys, h1, h2, h3, h4⟩ := HTn.out
      refine ⟨_, rfl, ?_, HU.out⟩
      rw [List.drop_of_length_le (by rw [altF_length]; have := HL.out; omega)] at h4
      rw [show afterF xs ws ps = ys from h4.symm]
      exact h1

end Go.Proofs.Ytiiljmaianfdeaa
