/- Chapter 8, plain: what the laws on plans and best turns need. -/
import Derived.Test.YtiiljmaianfdeaaPlan
import Derived.Test.YtiiljmaianfdeaaTrue
namespace Go.Proofs.Ytiiljmaianfdeaa
open Go.RowKit
set_option linter.unusedVariables false
set_option linter.unusedSimpArgs false

theorem altAux_neg (i : Nat) (ps : List Int) : altAux i (ps.map (- ·)) = (altAux i ps).map (- ·) := by
  induction ps generalizing i with
  | nil => rfl
  | cons p t ih =>
    simp only [List.map_cons, altAux, ih]
    congr 1
    unfold sgn; split <;> rfl
theorem afterF_undo (xs e ps : List Int) : afterF (afterF xs e ps) e (neg ps) = xs := by
  unfold afterF altF neg; rw [altAux_neg]; exact turnF_undo ..
theorem afterF_zeros (xs e : List Int) (n : Nat) : afterF xs e (List.replicate n 0) = xs := by
  unfold afterF altF turnF; rw [altAux_zeros]; exact turnAux_zeros ..
theorem ap_yes {xs e ps : List Int} (h : apE xs e ps = 0) : deB xs e = true ∧ plB xs ps = true ∧ apB xs e ps = true ∧ apL xs e ps = afterF xs e ps := by
  unfold apE at h
  cases q1 : deB xs e <;> cases q2 : plB xs ps <;> cases q3 : apB xs e ps <;> simp [q1, q2, q3] at h
  exact ⟨rfl, rfl, rfl, by simp [apL, q1, q2, q3]⟩
theorem ap_law {xs e ps : List Int} (h : apE xs e ps = 0) : undoE ps = 0 ∧ apE (apL xs e ps) e (undoL ps) = 0 ∧ apL (apL xs e ps) e (undoL ps) = xs := by
  obtain ⟨q1, q2, q3, e1⟩ := ap_yes h
  simp only [deB, Bool.and_eq_true] at q1
  simp only [plB, Bool.and_eq_true, decide_eq_true_eq] at q2
  have hb := de_bd q1.1 q1.2
  have u1 : undoB ps = true := by simp only [undoB, Bool.and_eq_true]; exact ⟨inB_mk (by omega), q2.2⟩
  have e2 : undoL ps = neg ps := by simp [undoL, u1]
  have p1 : deB (afterF xs e ps) e = true := by simp only [deB, Bool.and_eq_true]; exact ⟨q3, q1.2⟩
  have p2 : plB (afterF xs e ps) (neg ps) = true := by
    simp only [plB, Bool.and_eq_true, decide_eq_true_eq]
    refine ⟨by rw [neg_length, afterF_length]; exact q2.1, allB_mk fun x hx => ?_⟩
    obtain ⟨y, hy, rfl⟩ := List.mem_map.1 hx
    have := allB_t q2.2 y hy; omega
  have p3 : apB (afterF xs e ps) e (neg ps) = true := by rw [apB, afterF_undo]; exact q1.1
  rw [e1, e2]
  exact ⟨by simp [undoE, u1], by simp [apE, p1, p2, p3], by simp [apL, p1, p2, p3, afterF_undo]⟩
theorem apL_le (xs e ps : List Int) : (apL xs e ps).length ≤ xs.length := by
  have := afterF_length xs e ps
  unfold apL; split <;> (try split) <;> (try split) <;> simp <;> omega
theorem undoL_le (ps : List Int) : (undoL ps).length ≤ ps.length := by unfold undoL; split <;> simp [neg]

/-! ### The least plan -/
/-- The effort of a plan. -/
def effF (ps : List Int) : Int := isum (ps.map iabs)
theorem effF_app (a : List Int) (q : Int) : effF (a ++ [q]) = effF a + iabs q := by simp [effF, isum_append, isum]
theorem effF_step {ps : List Int} {k : Nat} {x : Int} (h : ps[k]? = some x) : effF (ps.take (k + 1)) = effF (ps.take k) + iabs x := by
  rw [take_step h, effF_app]
theorem effF_nonneg (ps : List Int) : 0 ≤ effF ps := by
  unfold effF
  induction ps with
  | nil => simp [isum]
  | cons x t ih => simp only [List.map_cons, isum]; have := iabs_nonneg x; omega
theorem effF_le_take (ps : List Int) (k : Nat) : effF (ps.take k) ≤ effF ps := by
  have h : effF ps = effF (ps.take k) + effF (ps.drop k) := by
    unfold effF; rw [← isum_append, ← List.map_append, List.take_append_drop]
  have := effF_nonneg (ps.drop k); omega
theorem effF_mem {ps : List Int} {x : Int} (h : x ∈ ps) : iabs x ≤ effF ps := by
  induction ps with
  | nil => simp at h
  | cons y t ih =>
    have h1 := effF_nonneg t
    have e : effF (y :: t) = iabs y + effF t := by simp [effF, isum]
    rcases List.mem_cons.1 h with rfl | h
    · omega
    · have := ih h; have := iabs_nonneg y; omega
theorem effF_zero {ps : List Int} (h : effF ps = 0) : ps = List.replicate ps.length 0 := by
  refine List.eq_replicate_iff.2 ⟨rfl, fun x hx => ?_⟩
  have h1 := effF_mem hx
  rw [h] at h1
  unfold iabs at h1; split at h1 <;> omega
theorem effF_zeros (n : Nat) : effF (List.replicate n 0) = 0 := by
  induction n with
  | zero => rfl
  | succ n ih => rw [List.replicate_succ]; simp only [effF, List.map_cons, isum]; rw [show isum ((List.replicate n 0).map iabs) = effF (List.replicate n 0) from rfl, ih]; rfl
theorem tryF_some {f : Int → Option (List Int)} {eff m : Nat} {p : List Int} (h : tryF f eff m = some p) : ∃ j, j < m ∧ f ((j : Int) - eff) = some p := by
  induction m with
  | zero => simp [tryF] at h
  | succ m ih =>
    rw [tryF] at h
    cases hv : f ((m : Int) - eff) with
    | none => rw [hv] at h; obtain ⟨j, h1, h2⟩ := ih h; exact ⟨j, by omega, h2⟩
    | some c => rw [hv] at h; simp at h; subst h; exact ⟨m, by omega, hv⟩
theorem planF_some (xs e : List Int) (t : Int) (r : Nat) : ∀ (begun : List Int) (eff : Nat) (p : List Int), planF xs e t r begun eff = some p →
    p.length = begun.length + r ∧ effF p = effF begun + eff ∧ allB (afterF xs e p) (-t) t = true := by
  induction r with
  | zero =>
    intro begun eff p h
    rw [planF] at h
    split at h
    · rename_i hc
      simp at h; subst h
      exact ⟨rfl, by omega, hc.2⟩
    · simp at h
  | succ r ih =>
    intro begun eff p h
    rw [planF] at h
    obtain ⟨j, h1, h2⟩ := tryF_some h
    obtain ⟨a, b, c⟩ := ih _ _ _ h2
    rw [effF_app, iabs_natAbs] at b
    refine ⟨by rw [a]; simp; omega, ?_, c⟩
    omega
theorem planF_zero (xs e : List Int) (t : Int) (r k : Nat) : planF xs e t r (List.replicate k 0) 0 = if allB xs (-t) t = true then some (List.replicate (k + r) 0) else none := by
  induction r generalizing k with
  | zero => rw [planF, afterF_zeros]; simp
  | succ r ih =>
    rw [planF]
    show tryF _ 0 1 = _
    rw [tryF, tryF]
    have e1 : List.replicate k (0 : Int) ++ [((0 : Nat) : Int) - ((0 : Nat) : Int)] = List.replicate (k + 1) 0 := by
      rw [List.replicate_succ']; simp
    rw [e1]
    show Option.orElse (planF xs e t r (List.replicate (k + 1) 0) 0) _ = _
    rw [ih, show k + 1 + r = k + (r + 1) by omega]
    split <;> rfl
theorem lpF_some {xs e : List Int} {t : Int} {m : Nat} {p : List Int} (hm : m ≤ 5) (h : lpF xs e t m = some p) : p.length = xs.length ∧ effF p ≤ 4 ∧ allB (afterF xs e p) (-t) t = true := by
  induction m with
  | zero => simp [lpF] at h
  | succ m ih =>
    rw [lpF] at h
    cases hv : planF xs e t xs.length [] (4 - m) with
    | none => rw [hv] at h; exact ih (by omega) h
    | some c =>
      rw [hv] at h; simp at h; subst h
      obtain ⟨a, b, c'⟩ := planF_some _ _ _ _ _ _ _ hv
      refine ⟨by simpa using a, ?_, c'⟩
      rw [b]; simp [effF, isum]; omega
theorem lpF_first {xs e : List Int} {t : Int} {p : List Int} (h : lpF xs e t 5 = some p) (ht : allB xs (-t) t = true) : effF p = 0 := by
  have h0 := planF_zero xs e t xs.length 0
  rw [if_pos ht] at h0
  have := lpF_t (k := 0) (by omega) h0
  rw [h] at this
  simp at this
  rw [this]; exact effF_zeros _
theorem lp_law {xs e : List Int} {t : Int} (h : lpE xs e t = 0) :
    (lpL xs e t).length = xs.length ∧ effF (lpL xs e t) ≤ 4 ∧ apE xs e (lpL xs e t) = 0 ∧ istE (apL xs e (lpL xs e t)) t = 0 ∧ istV (apL xs e (lpL xs e t)) t = true ∧ istE xs t = 0 ∧ istV xs t = decide (effF (lpL xs e t) = 0) := by
  unfold lpE at h
  cases q1 : deB xs e <;> cases q2 : inB t 0 500 <;> cases q3 : lpF xs e t 5 <;> simp [q1, q2, q3] at h
  rename_i p
  have e1 : lpL xs e t = p := by simp [lpL, q1, q2, q3]
  obtain ⟨a, b, c⟩ := lpF_some (by omega) q3
  have hd := q1
  simp only [deB, Bool.and_eq_true] at hd
  have ht := inB_t q2
  have hb := de_bd hd.1 hd.2
  have p2 : plB xs p = true := by
    simp only [plB, Bool.and_eq_true, decide_eq_true_eq]
    refine ⟨a, allB_mk fun x hx => ?_⟩
    have := effF_mem hx
    unfold iabs at this; split at this <;> omega
  have p3 : areB (afterF xs e p) (-500) 500 4 10 = true := by
    simp only [areB, Bool.and_eq_true]
    refine ⟨allB_mk fun x hx => ?_, by rw [afterF_length]; exact inB_mk (by omega)⟩
    have := allB_t c x hx; omega
  have p4 : apB xs e p = true := p3
  have e2 : apL xs e p = afterF xs e p := by simp [apL, q1, p2, p4]
  rw [e1, e2]
  refine ⟨a, b, by simp [apE, q1, p2, p4], by simp [istE, p3, q2], by simp [istV, p3, q2, c], by simp [istE, hd.1, q2], ?_⟩
  simp only [istV, hd.1, q2, Bool.true_and]
  cases hc : allB xs (-t) t
  · refine (decide_eq_false fun h0 => ?_).symm
    rw [effF_zero h0, afterF_zeros] at c
    rw [c] at hc; cases hc
  · exact (decide_eq_true (lpF_first q3 hc)).symm

/-! ### The worst place, the best turn -/
theorem worstTo_max (xs : List Int) (k : Nat) : ∀ i, i < k → iabs (xs.getD i 0) ≤ iabs (xs.getD (worstTo xs k) 0) := by
  induction k with
  | zero => intro i hi; omega
  | succ k ih =>
    intro i hi
    rw [worstTo]
    by_cases e : i = k
    · subst e; split <;> omega
    · have := ih i (by omega)
      split <;> omega
theorem worst_law {xs : List Int} (h : worstE xs = 0) : ∃ k : Nat, worstV xs = k ∧ k < xs.length ∧ AllLe 500 xs ∧ (xs.length : Int) ≤ 10 ∧ ∀ (i : Nat) (x y : Int), xs[i]? = some x → xs[k]? = some y → iabs x ≤ iabs y := by
  unfold worstE at h
  cases q : areB xs (-500) 500 4 10 <;> simp [q] at h
  obtain ⟨a, b⟩ := dev_bd q
  refine ⟨worstTo xs xs.length, by simp [worstV, q], worstTo_lt _ _ (by omega) (by omega), a, b.2, fun i x y hx hy => ?_⟩
  have := worstTo_max xs xs.length i (get_lt hx)
  rw [List.getD_eq_getElem?_getD, List.getD_eq_getElem?_getD, hx, hy] at this
  exact this
theorem bStep_le (xs e : List Int) (k : Nat) (q : Int) (s : Int × Int × Int) : (bStep xs e k q s).1 ≤ s.1 ∧ (bStep xs e k q s).1 ≤ candF xs e k q := by
  unfold bStep; split
  · simp only []; omega
  · omega
def bOk (xs e : List Int) (s : Int × Int × Int) : Prop := 0 ≤ s.2.1 → s.1 = candF xs e s.2.1.toNat s.2.2 ∧ s.1 < isq xs
theorem bStep_ok {xs e : List Int} {s : Int × Int × Int} (k : Nat) (q : Int) (hs : s.1 ≤ isq xs) (h : bOk xs e s) : bOk xs e (bStep xs e k q s) := by
  unfold bStep; split
  · intro _; exact ⟨rfl, by simp only []; omega⟩
  · exact h
theorem bTo_law (xs e : List Int) (k : Nat) : (bTo xs e k).1 ≤ isq xs ∧ bOk xs e (bTo xs e k) ∧ ∀ j q, j < k → (q = 1 ∨ q = -1) → (bTo xs e k).1 ≤ candF xs e j q := by
  induction k with
  | zero => exact ⟨Int.le_refl _, fun h => by simp [bTo] at h, fun j q hj => by omega⟩
  | succ k ih =>
    obtain ⟨h1, h2, h3⟩ := ih
    have a := bStep_le xs e k 1 (bTo xs e k)
    have b := bStep_le xs e k (-1) (bStep xs e k 1 (bTo xs e k))
    refine ⟨by rw [bTo]; omega, ?_, fun j q hj hq => ?_⟩
    · rw [bTo]; exact bStep_ok _ _ (by omega) (bStep_ok _ _ h1 h2)
    · rw [bTo]
      by_cases e : j = k
      · subst e
        rcases hq with rfl | rfl <;> omega
      · have := h3 j q (by omega) hq; omega
theorem isq_one_bd {xs : List Int} (h : AllLe 500 xs) (hl : (xs.length : Int) ≤ 10) (k : Nat) : -480000000000 ≤ isq (xs.take k) ∧ isq (xs.take k) ≤ 480000000000 := isq_bd (h.mono (by omega)) (by omega) k
theorem plB_one {xs : List Int} (j : Nat) {q : Int} (hq : q = 1 ∨ q = -1) : plB xs (oneF xs.length j q) = true := by
  simp only [plB, Bool.and_eq_true, decide_eq_true_eq]
  refine ⟨oneF_length .., allB_mk fun x hx => ?_⟩
  exact oneF_bd xs.length j (by rcases hq with rfl | rfl <;> omega) x hx
theorem bt_law {xs e : List Int} (h : btE xs e = 0) : ∃ k : Nat, btS xs e = k ∧ k < xs.length ∧ AllLe 500 xs ∧ AllLe 20 e ∧ (4 ≤ (xs.length : Int) ∧ (xs.length : Int) ≤ 10) ∧
    (apE xs e (oneF xs.length k (btQ xs e)) = 3 ∨ apE xs e (oneF xs.length k (btQ xs e)) = 0 ∧ (apL xs e (oneF xs.length k (btQ xs e))).length = xs.length ∧ AllLe 500 (apL xs e (oneF xs.length k (btQ xs e))) ∧ isq (apL xs e (oneF xs.length k (btQ xs e))) < isq xs ∧
      ∀ j q, j < xs.length → (q = 1 ∨ q = -1) → apE xs e (oneF xs.length j q) = 0 → AllLe 500 (apL xs e (oneF xs.length j q)) ∧ (apL xs e (oneF xs.length j q)).length = xs.length ∧ isq (apL xs e (oneF xs.length k (btQ xs e))) ≤ isq (apL xs e (oneF xs.length j q))) := by
  unfold btE at h
  cases q1 : deB xs e <;> simp [q1] at h
  have hd := q1
  simp only [deB, Bool.and_eq_true] at hd
  have hb := de_bd hd.1 hd.2
  have hsq := bSQ xs e
  have hq2 : 0 ≤ bSp xs e := h
  have e1 : btS xs e = bSp xs e := by simp [btS, q1, hq2]
  have e2 : btQ xs e = bQ xs e := by simp [btQ, q1, hq2]
  obtain ⟨l1, l2, l3⟩ := bTo_law xs e xs.length
  obtain ⟨m1, m2⟩ := l2 hq2
  have hk : (bSp xs e).toNat < xs.length := by omega
  have hone : ∀ j q, j < xs.length → apE xs e (oneF xs.length j q) = 0 → AllLe 500 (apL xs e (oneF xs.length j q)) ∧ (apL xs e (oneF xs.length j q)).length = xs.length ∧ isq (apL xs e (oneF xs.length j q)) = candF xs e j q := by
    intro j q hj hz
    obtain ⟨-, -, z3, z4⟩ := ap_yes hz
    rw [z4]
    refine ⟨(dev_bd z3).1, afterF_length .., ?_⟩
    rw [afterF_one _ _ _ _ hj]; rfl
  have hbq : bQ xs e = 1 ∨ bQ xs e = -1 := by
    have hne : bQ xs e ≠ 0 := by
      intro h0
      have m3 : (bTo xs e xs.length).1 = candF xs e (bSp xs e).toNat (bQ xs e) := m1
      rw [h0] at m3
      have : candF xs e (bSp xs e).toNat 0 = isq xs := by unfold candF oneT; rw [sgn_zero, spread_zero]
      omega
    omega
  have hp := plB_one (xs := xs) (bSp xs e).toNat hbq
  refine ⟨(bSp xs e).toNat, by rw [e1]; omega, hk, hb.1, hb.2.1, hb.2.2.1, ?_⟩
  rw [e2]
  cases z : apB xs e (oneF xs.length (bSp xs e).toNat (bQ xs e))
  · left; simp [apE, q1, hp, z]
  · right
    have z0 : apE xs e (oneF xs.length (bSp xs e).toNat (bQ xs e)) = 0 := by simp [apE, q1, hp, z]
    obtain ⟨y1, y2, y3⟩ := hone _ _ hk z0
    refine ⟨z0, y2, y1, by rw [y3]; exact lt_of_eq_of_lt m1.symm m2, fun j q hj hq hz => ?_⟩
    obtain ⟨x1, x2, x3⟩ := hone _ _ hj hz
    refine ⟨x1, x2, ?_⟩
    rw [y3, x3]
    have := l3 j q hj hq
    have m3 : (bTo xs e xs.length).1 = candF xs e (bSp xs e).toNat (bQ xs e) := m1
    omega
end Go.Proofs.Ytiiljmaianfdeaa
