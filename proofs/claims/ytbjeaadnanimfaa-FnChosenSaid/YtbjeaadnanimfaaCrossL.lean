/- Chapter 5: the plain law of the crosses that come nearest to a length; of shares. -/
import Derived.Test.YtbjeaadnanimfaaSpokeL
namespace Go.Proofs.Ytbjeaadnanimfaa
open Go.RowKit
set_option linter.unusedVariables false
set_option linter.unusedSimpArgs false

/-- The first number below n with the least f, and that least. -/
def bestC (f : Nat → Int) : Nat → Int × Int
  | 0 => (0, -1)
  | n + 1 => if (bestC f n).2 < 0 ∨ f n < (bestC f n).2 then ((n : Int), f n) else bestC f n
theorem bestC_yes {f : Nat → Int} {n : Nat} {p q F : Int} (hp : (bestC f n).1 = p) (hq : (bestC f n).2 = q) (hF : f n = F) (h : q < 0 ∨ F < q) : (bestC f (n + 1)).1 = n ∧ (bestC f (n + 1)).2 = F := by
  have : bestC f (n + 1) = ((n : Int), f n) := by
    show (if _ then _ else _) = _
    rw [hq, hF, if_pos h]
  rw [this]; exact ⟨rfl, hF⟩
theorem bestC_no {f : Nat → Int} {n : Nat} {p q F : Int} (hp : (bestC f n).1 = p) (hq : (bestC f n).2 = q) (hF : f n = F) (h : ¬ (q < 0 ∨ F < q)) : (bestC f (n + 1)).1 = p ∧ (bestC f (n + 1)).2 = q := by
  have : bestC f (n + 1) = bestC f n := by
    show (if _ then _ else _) = _
    rw [hq, hF, if_neg h]
  rw [this]; exact ⟨hp, hq⟩
theorem bestC_ok {f : Nat → Int} (hf : ∀ j, 0 ≤ f j) (n : Nat) : ∃ m : Nat, m ≤ n ∧ (bestC f (n + 1)).1 = m ∧ (bestC f (n + 1)).2 = f m ∧ ∀ j, j ≤ n → f m ≤ f j := by
  induction n with
  | zero =>
    refine ⟨0, Nat.le_refl _, ?_, ?_, fun j hj => by rw [Nat.le_zero.1 hj]; omega⟩
    · rfl
    · rfl
  | succ n ih =>
    obtain ⟨m, h1, h2, h3, h4⟩ := ih
    by_cases h : (bestC f (n + 1)).2 < 0 ∨ f (n + 1) < (bestC f (n + 1)).2
    · obtain ⟨a, b⟩ := bestC_yes rfl rfl rfl h
      refine ⟨n + 1, Nat.le_refl _, a, b, fun j hj => ?_⟩
      have h0 := hf m
      rw [h3] at h
      by_cases hj2 : j ≤ n
      · have := h4 j hj2; omega
      · rw [show j = n + 1 by omega]; omega
    · obtain ⟨a, b⟩ := bestC_no h2 h3 rfl (by rw [← h3]; exact h)
      refine ⟨m, by omega, a, b, fun j hj => ?_⟩
      by_cases hj2 : j ≤ n
      · exact h4 j hj2
      · rw [show j = n + 1 by omega]; rw [h3] at h; omega
/-- How far a spoke with j crosses is from a length. -/
def awayV (h l r lo ro rh d o len : Int) (b : Bool) (j : Nat) : Int := iabs (lenV h l r lo ro rh d o j b - len)
def crsE (h l r lo ro rh d o k len : Int) : Int := if whB h l r lo ro rh d o k then (if inB len 0 5000 then 0 else 2) else 1
def crsR (h l r lo ro rh d o k len : Int) (b : Bool) : Int := if whB h l r lo ro rh d o k then (if inB len 0 5000 then (bestC (awayV h l r lo ro rh d o len b) (h / 4).toNat).1 else 0) else 0
theorem whB_k {h l r lo ro rh d o k j : Int} (e : whB h l r lo ro rh d o k = true) (hj : 0 ≤ j ∧ j ≤ h / 4 - 1) : whB h l r lo ro rh d o j = true := by
  unfold whB at *
  simp only [Bool.and_eq_true] at e ⊢
  obtain ⟨e1, e2, e3, e4⟩ := e
  exact ⟨e1, e2, e3, inB_mk hj⟩
theorem whB_d {h l r lo ro rh d o k j : Int} (e : whB h l r lo ro rh d o k = true) (hj : 2000 ≤ j ∧ j ≤ 7000) : whB h l r lo ro rh j o k = true := by
  unfold whB rimB at *
  simp only [Bool.and_eq_true] at e ⊢
  obtain ⟨e1, ⟨e2, e3, e4⟩, e5⟩ := e
  exact ⟨e1, ⟨e2, inB_mk hj, e4⟩, e5⟩
/-- The crosses that are chosen come nearest. -/
structure CrsP (h l r lo ro rh d o k len : Int) (b : Bool) (C : Int) (N : Nat) : Prop where
  wh : whB h l r lo ro rh d o k = true
  lb : 0 ≤ len ∧ len ≤ 5000
  n : (N : Int) = h / 4 ∧ N ≤ 12
  c : 0 ≤ C ∧ C < N
  near : ∀ j : Nat, j < N → iabs (lenV h l r lo ro rh d o C b - len) ≤ iabs (lenV h l r lo ro rh d o j b - len)
theorem crs_law {h l r lo ro rh d o k len : Int} (b : Bool) (e : crsE h l r lo ro rh d o k len = 0) : ∃ N, CrsP h l r lo ro rh d o k len b (crsR h l r lo ro rh d o k len b) N := by
  unfold crsE at e
  cases q : whB h l r lo ro rh d o k
  · rw [q] at e; simp at e
  · cases q2 : inB len 0 5000
    · rw [q, q2] at e; simp at e
    · obtain ⟨⟨h1, h2, h3⟩, -⟩ := whB_t q
      have hC : crsR h l r lo ro rh d o k len b = (bestC (awayV h l r lo ro rh d o len b) (h / 4).toNat).1 := by
        unfold crsR; rw [q, q2]; rfl
      rw [hC]
      obtain ⟨M, hM⟩ : ∃ M : Nat, (h / 4).toNat = M + 1 := ⟨(h / 4).toNat - 1, by omega⟩
      rw [hM]
      obtain ⟨m, m1, m2, m3, m4⟩ := bestC_ok (f := awayV h l r lo ro rh d o len b) (fun j => iabs_nonneg _) M
      rw [m2]
      exact ⟨M + 1, q, inB_t q2, ⟨by omega, by omega⟩, ⟨by omega, by omega⟩, fun j hj => m4 j (by omega)⟩
/-- Shares. -/
def shE (h l r lo ro rh d o k : Int) : Int := if whB h l r lo ro rh d o k then (if offV lo ro o false < 1 ∨ offV lo ro o true < 1 then 5 else 0) else 1
def shR (h l r lo ro rh d o k : Int) : Int := if shE h l r lo ro rh d o k = 0 then nearF (1000 * offV lo ro o true * lenV h l r lo ro rh d o k false) (offV lo ro o false * lenV h l r lo ro rh d o k true) else 0
theorem nearF_nonneg {x y : Int} (hx : 0 ≤ x) (hy : 1 ≤ y) : 0 ≤ nearF x y := Int.ediv_nonneg (by omega) (by omega)
theorem nearF_1000 {x y : Int} (hy : 1 ≤ y) (h : x ≤ y) : nearF (1000 * x) y ≤ 1000 := by
  unfold nearF
  have : (2 * (1000 * x) + y) / (2 * y) < 1001 := Int.ediv_lt_of_lt_mul (by omega) (by omega)
  omega
theorem offV_mirror (lo ro o : Int) (b : Bool) : offV ro lo (-o) (!b) = offV lo ro o b := by
  cases b
  · show lo - -o = lo + o; omega
  · show ro + -o = ro - o; omega
structure ShP (h l r lo ro rh d o k S : Int) (T : Int) : Prop where
  wh : whB h l r lo ro rh d o k = true
  mE : shE h r l ro lo rh d (-o) k = 0
  mR : shR h r l ro lo rh d (-o) k = T
  pos : 0 ≤ S
  one : S ≤ 1000 ∨ T ≤ 1000
theorem mul_pos1 {x y : Int} (hx : 1 ≤ x) (hy : 1 ≤ y) : 1 ≤ x * y := by
  have := Int.mul_le_mul hx hy (by omega) (by omega); omega
theorem sh_law {h l r lo ro rh d o k : Int} (e : shE h l r lo ro rh d o k = 0) : ∃ T, ShP h l r lo ro rh d o k (shR h l r lo ro rh d o k) T := by
  have e0 := e
  unfold shE at e
  cases q : whB h l r lo ro rh d o k
  · rw [q] at e; simp at e
  · rw [q, if_pos rfl] at e
    by_cases h1 : offV lo ro o false < 1 ∨ offV lo ro o true < 1
    · rw [if_pos h1] at e; omega
    · have q2 := whB_mirror q
      have f1 := offV_mirror lo ro o false
      have f2 := offV_mirror lo ro o true
      have g1 := lenV_mirror h l r lo ro rh d o k false
      have g2 := lenV_mirror h l r lo ro rh d o k true
      simp only [Bool.not_false, Bool.not_true] at f1 f2 g1 g2
      have e2 : shE h r l ro lo rh d (-o) k = 0 := by
        unfold shE; rw [q2, if_pos rfl, f1, f2, if_neg (by omega)]
      have a1 := (lenV_in false q).2
      have a2 := (lenV_in true q).2
      have hS : shR h l r lo ro rh d o k = nearF (1000 * offV lo ro o true * lenV h l r lo ro rh d o k false) (offV lo ro o false * lenV h l r lo ro rh d o k true) := if_pos e0
      have hT : shR h r l ro lo rh d (-o) k = nearF (1000 * offV lo ro o false * lenV h l r lo ro rh d o k true) (offV lo ro o true * lenV h l r lo ro rh d o k false) := by
        unfold shR; rw [if_pos e2, f1, f2, g1, g2]
      rw [hS]
      generalize offV lo ro o false = A at *
      generalize offV lo ro o true = B at *
      generalize lenV h l r lo ro rh d o k false = P at *
      generalize lenV h l r lo ro rh d o k true = Q at *
      have x1 := mul_pos1 (x := A) (y := Q) (by omega) (by omega)
      have x2 := mul_pos1 (x := B) (y := P) (by omega) (by omega)
      rw [Int.mul_assoc] at hT ⊢
      refine ⟨_, q, e2, hT, nearF_nonneg (by omega) x1, ?_⟩
      by_cases hc : B * P ≤ A * Q
      · exact .inl (nearF_1000 x1 hc)
      · exact .inr (nearF_1000 x2 (by omega))
end Go.Proofs.Ytbjeaadnanimfaa
