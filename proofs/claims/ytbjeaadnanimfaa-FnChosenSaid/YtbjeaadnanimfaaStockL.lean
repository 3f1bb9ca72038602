/- Chapter 5: stocks of spokes; the spoke that is chosen. Plain laws. -/
import Derived.Test.YtbjeaadnanimfaaTeeth
import Derived.Test.YtbjeaadnanimfaaCrossL
namespace Go.Proofs.Ytbjeaadnanimfaa
open Go.RowKit
set_option linter.unusedVariables false
set_option linter.unusedSimpArgs false

def Rises (xs : List Int) : Prop := allB xs 0 5000 = true ∧ Inc xs xs.length
noncomputable def riseB (xs : List Int) : Bool := @decide (Rises xs) (Classical.propDecidable _)
theorem riseB_t {xs : List Int} (h : Rises xs) : riseB xs = true := by unfold riseB; exact @decide_eq_true _ (Classical.propDecidable _) h
theorem riseB_f {xs : List Int} (h : ¬ Rises xs) : riseB xs = false := by unfold riseB; exact @decide_eq_false _ (Classical.propDecidable _) h
theorem riseB_is {xs : List Int} (h : riseB xs = true) : Rises xs := by unfold riseB at h; exact @of_decide_eq_true _ (Classical.propDecidable _) h
noncomputable def stkB (xs : List Int) : Bool := riseB xs && decide (xs.length ≤ 30)
theorem stkB_long {xs : List Int} (h : ¬ xs.length ≤ 30) : stkB xs = false := by unfold stkB; simp [h]
theorem stkB_bad {xs : List Int} (h : riseB xs = false) : stkB xs = false := by unfold stkB; simp [h]
theorem stkB_mk {xs : List Int} (h : riseB xs = true) (hl : xs.length ≤ 30) : stkB xs = true := by unfold stkB; simp [h, hl]
theorem stkB_is {xs : List Int} (h : stkB xs = true) : Rises xs ∧ xs.length ≤ 30 := by
  unfold stkB at h
  rw [Bool.and_eq_true] at h
  exact ⟨riseB_is h.1, of_decide_eq_true h.2⟩
/-- The last of the first k that does. -/
def chN (xs : List Int) (len : Int) : Nat → Int
  | 0 => -1
  | k + 1 => if inB (xs.getD k 0) (len - 20) (len + 10) then xs.getD k 0 else chN xs len k
def chF (xs : List Int) (len : Int) : Int := chN xs len xs.length
theorem chN_yes {xs : List Int} {len x : Int} {k : Nat} (h : xs[k]? = some x) (hi : inB x (len - 20) (len + 10) = true) : chN xs len (k + 1) = x := by
  have g : xs.getD k 0 = x := by rw [List.getD_eq_getElem?_getD, h]; rfl
  show (if _ then _ else _) = _
  rw [g, if_pos hi]
theorem chN_no {xs : List Int} {len x : Int} {k : Nat} (h : xs[k]? = some x) (hi : inB x (len - 20) (len + 10) = false) : chN xs len (k + 1) = chN xs len k := by
  have g : xs.getD k 0 = x := by rw [List.getD_eq_getElem?_getD, h]; rfl
  show (if _ then _ else _) = _
  rw [g, hi]; rfl
theorem chN_cases (xs : List Int) (len : Int) (k : Nat) (hk : k ≤ xs.length) : (chN xs len k = -1 ∧ ∀ j x, j < k → xs[j]? = some x → inB x (len - 20) (len + 10) = false) ∨
    ∃ m, m < k ∧ xs[m]? = some (chN xs len k) ∧ inB (chN xs len k) (len - 20) (len + 10) = true ∧ ∀ j x, m < j → j < k → xs[j]? = some x → inB x (len - 20) (len + 10) = false := by
  induction k with
  | zero => exact .inl ⟨rfl, fun j x hj => by omega⟩
  | succ k ih =>
    obtain ⟨x, hx⟩ : ∃ x, xs[k]? = some x := ⟨_, List.getElem?_eq_getElem (by omega)⟩
    cases q : inB x (len - 20) (len + 10)
    · rw [chN_no hx q]
      rcases ih (by omega) with ⟨h1, h2⟩ | ⟨m, h1, h2, h3, h4⟩
      · refine .inl ⟨h1, fun j y hj hy => ?_⟩
        by_cases e : j = k
        · subst e; rw [hx] at hy; cases hy; exact q
        · exact h2 j y (by omega) hy
      · refine .inr ⟨m, by omega, h2, h3, fun j y hm hj hy => ?_⟩
        by_cases e : j = k
        · subst e; rw [hx] at hy; cases hy; exact q
        · exact h4 j y hm (by omega) hy
    · rw [chN_yes hx q]
      exact .inr ⟨k, by omega, hx, q, fun j y hm hj hy => by omega⟩
theorem inc_le {xs : List Int} (h : Inc xs xs.length) {i j : Nat} (hij : i ≤ j) (hj : j < xs.length) : xs.getD i 0 ≤ xs.getD j 0 := by
  induction j with
  | zero => rw [Nat.le_zero.1 hij]; omega
  | succ j ih =>
    by_cases e : i = j + 1
    · rw [e]; omega
    · have h1 := ih (by omega) (by omega)
      have h2 := h j (by omega)
      omega
/-- What the law of the choice needs. -/
structure ChP (xs : List Int) (len C : Int) : Prop where
  stk : stkB xs = true
  small : xs.length ≤ 30
  lb : 0 ≤ len ∧ len ≤ 5000
  c : 0 ≤ C ∧ C ≤ 5000
  has : hasB xs C = true
  hi : C ≤ len + 10
  lo : len - 20 ≤ C
  best : ∀ (j : Nat) (x : Int), xs[j]? = some x → C < x → ¬ x ≤ len + 10
/-- The code and the value of ChooseSpoke. -/
noncomputable def choE (xs : List Int) (len : Int) : Int := if stkB xs then (if inB len 0 5000 then (if chF xs len < 0 then 4 else 0) else 2) else 1
noncomputable def choR (xs : List Int) (len : Int) : Int := if choE xs len = 0 then chF xs len else 0
theorem cho_ok {xs : List Int} {len : Int} (h1 : stkB xs = true) (h2 : 0 ≤ len ∧ len ≤ 5000) (h3 : 0 ≤ chF xs len) : choE xs len = 0 ∧ choR xs len = chF xs len := by
  have e : choE xs len = 0 := by unfold choE; rw [if_pos h1, if_pos (inB_mk h2), if_neg (by omega)]
  exact ⟨e, if_pos e⟩
theorem ch_law {xs : List Int} {len : Int} (e : choE xs len = 0) : ChP xs len (choR xs len) := by
  have hR : choR xs len = chF xs len := if_pos e
  rw [hR]
  unfold choE at e
  cases q1 : stkB xs
  · rw [q1] at e; simp at e
  cases q2 : inB len 0 5000
  · rw [q1, q2] at e; simp at e
  rw [q1, q2, if_pos rfl, if_pos rfl] at e
  by_cases h : chF xs len < 0
  · rw [if_pos h] at e; omega
  · obtain ⟨⟨s1, s2⟩, s3⟩ := stkB_is q1
    rcases chN_cases xs len xs.length (Nat.le_refl _) with ⟨h1, -⟩ | ⟨m, h1, h2, h3, h4⟩
    · exfalso; apply h; unfold chF; omega
    · have h5 := inB_t h3
      have h6 := allB_t s1 _ (mem_of_get h2)
      refine ⟨q1, s3, inB_t q2, h6, hasB_t h2, h5.2, h5.1, fun j x hj hc => ?_⟩
      intro hle
      have gx : xs.getD j 0 = x := by rw [List.getD_eq_getElem?_getD, hj]; rfl
      have gc : xs.getD m 0 = chF xs len := by rw [List.getD_eq_getElem?_getD, h2]; rfl
      have hjl := (List.getElem?_eq_some_iff.1 hj).1
      by_cases hmj : m < j
      · have := inB_f (h4 j x hmj hjl hj)
        have h50 : len - 20 ≤ chF xs len := h5.1
        omega
      · have := inc_le s2 (i := j) (j := m) (by omega) h1
        omega
/-- SpokesFor. -/
noncomputable def sfE (h l r lo ro rh d o k : Int) (xs : List Int) : Int :=
  if whB h l r lo ro rh d o k then (if stkB xs then (if chF xs (lenV h l r lo ro rh d o k false) < 0 ∨ chF xs (lenV h l r lo ro rh d o k true) < 0 then 4 else 0) else 1) else 1
noncomputable def sfA (h l r lo ro rh d o k : Int) (xs : List Int) (b : Bool) : Int := if sfE h l r lo ro rh d o k xs = 0 then chF xs (lenV h l r lo ro rh d o k b) else 0
theorem sf_law {h l r lo ro rh d o k : Int} {xs : List Int} (e : sfE h l r lo ro rh d o k xs = 0) :
    whE h l r lo ro rh d o k = 0 ∧ choE xs (lenR h l r lo ro rh d o k false) = 0 ∧ choR xs (lenR h l r lo ro rh d o k false) = sfA h l r lo ro rh d o k xs false := by
  have hA : sfA h l r lo ro rh d o k xs false = chF xs (lenV h l r lo ro rh d o k false) := if_pos e
  rw [hA]
  unfold sfE at e
  cases q1 : whB h l r lo ro rh d o k
  · rw [q1] at e; simp at e
  cases q2 : stkB xs
  · rw [q1, q2] at e; simp at e
  rw [q1, q2, if_pos rfl, if_pos rfl] at e
  by_cases hn : chF xs (lenV h l r lo ro rh d o k false) < 0 ∨ chF xs (lenV h l r lo ro rh d o k true) < 0
  · rw [if_pos hn] at e; omega
  · have a1 := (lenV_in false q1).2
    rw [lenR_mk false q1]
    have := cho_ok q2 (len := lenV h l r lo ro rh d o k false) (by omega) (by omega)
    exact ⟨whE_mk q1, this.1, this.2⟩
/-- The least and the greatest of f below n, from s on. -/
def loM (f : Nat → Int) (s : Int) : Nat → Int
  | 0 => s
  | k + 1 => min (loM f s k) (f k)
def hiM (f : Nat → Int) (s : Int) : Nat → Int
  | 0 => s
  | k + 1 => max (hiM f s k) (f k)
theorem loM_ok (f : Nat → Int) (s : Int) (k : Nat) : loM f s k ≤ s ∧ (∀ j, j < k → loM f s k ≤ f j) ∧ (loM f s k = s ∨ ∃ j, j < k ∧ loM f s k = f j) := by
  induction k with
  | zero => exact ⟨Int.le_refl _, fun j hj => by omega, .inl rfl⟩
  | succ k ih =>
    obtain ⟨h1, h2, h3⟩ := ih
    have e : loM f s (k + 1) = min (loM f s k) (f k) := rfl
    refine ⟨by omega, fun j hj => ?_, ?_⟩
    · by_cases ej : j = k
      · subst ej; omega
      · have := h2 j (by omega); omega
    · by_cases hc : loM f s k ≤ f k
      · rcases h3 with h3 | ⟨j, hj, h3⟩
        · exact .inl (by omega)
        · exact .inr ⟨j, by omega, by omega⟩
      · exact .inr ⟨k, by omega, by omega⟩
theorem hiM_ok (f : Nat → Int) (s : Int) (k : Nat) : s ≤ hiM f s k ∧ (∀ j, j < k → f j ≤ hiM f s k) ∧ (hiM f s k = s ∨ ∃ j, j < k ∧ hiM f s k = f j) := by
  induction k with
  | zero => exact ⟨Int.le_refl _, fun j hj => by omega, .inl rfl⟩
  | succ k ih =>
    obtain ⟨h1, h2, h3⟩ := ih
    have e : hiM f s (k + 1) = max (hiM f s k) (f k) := rfl
    refine ⟨by omega, fun j hj => ?_, ?_⟩
    · by_cases ej : j = k
      · subst ej; omega
      · have := h2 j (by omega); omega
    · by_cases hc : f k ≤ hiM f s k
      · rcases h3 with h3 | ⟨j, hj, h3⟩
        · exact .inl (by omega)
        · exact .inr ⟨j, by omega, by omega⟩
      · exact .inr ⟨k, by omega, by omega⟩
theorem loM_from {f : Nat → Int} {s : Int} {m n : Nat} (hm : m < n) (hs : f m ≤ s) : loM f s n = loM f (f m) n := by
  obtain ⟨a1, a2, a3⟩ := loM_ok f s n
  obtain ⟨b1, b2, b3⟩ := loM_ok f (f m) n
  have c1 := a2 m hm
  have c2 := b2 m hm
  rcases a3 with a3 | ⟨i, hi, a3⟩
  · rcases b3 with b3 | ⟨j, hj, b3⟩
    · omega
    · have := a2 j hj; omega
  · have d1 := b2 i hi
    rcases b3 with b3 | ⟨j, hj, b3⟩
    · omega
    · have := a2 j hj; omega
theorem hiM_from {f : Nat → Int} {s : Int} {m n : Nat} (hm : m < n) (hs : s ≤ f m) : hiM f s n = hiM f (f m) n := by
  obtain ⟨a1, a2, a3⟩ := hiM_ok f s n
  obtain ⟨b1, b2, b3⟩ := hiM_ok f (f m) n
  have c1 := a2 m hm
  have c2 := b2 m hm
  rcases a3 with a3 | ⟨i, hi, a3⟩
  · rcases b3 with b3 | ⟨j, hj, b3⟩
    · omega
    · have := a2 j hj; omega
  · have d1 := b2 i hi
    rcases b3 with b3 | ⟨j, hj, b3⟩
    · omega
    · have := a2 j hj; omega
/-- LengthRange: the length at a rim whose diameter is j more than d - tol. -/
def rgF (h l r lo ro rh d o k tol : Int) (b : Bool) (j : Nat) : Int := lenV h l r lo ro rh (d - tol + j) o k b
def lrE (h l r lo ro rh d o k tol : Int) : Int :=
  if whB h l r lo ro rh d o k then (if inB tol 0 20 then (if 2000 ≤ d - tol ∧ d + tol ≤ 7000 then 0 else 5) else 2) else 1
def lrLo (h l r lo ro rh d o k tol : Int) (b : Bool) : Int := if lrE h l r lo ro rh d o k tol = 0 then loM (rgF h l r lo ro rh d o k tol b) (lenV h l r lo ro rh d o k b) (2 * tol + 1).toNat else 0
def lrHi (h l r lo ro rh d o k tol : Int) (b : Bool) : Int := if lrE h l r lo ro rh d o k tol = 0 then hiM (rgF h l r lo ro rh d o k tol b) (lenV h l r lo ro rh d o k b) (2 * tol + 1).toNat else 0
theorem lr_law {h l r lo ro rh d o k tol : Int} (b : Bool) (e : lrE h l r lo ro rh d o k tol = 0) :
    whE h l r lo ro rh d o k = 0 ∧ lrLo h l r lo ro rh d o k tol b ≤ lenR h l r lo ro rh d o k b ∧ lenR h l r lo ro rh d o k b ≤ lrHi h l r lo ro rh d o k tol b := by
  have h1 : lrLo h l r lo ro rh d o k tol b = _ := if_pos e
  have h2 : lrHi h l r lo ro rh d o k tol b = _ := if_pos e
  unfold lrE at e
  cases q : whB h l r lo ro rh d o k
  · rw [q] at e; simp at e
  · rw [h1, h2, lenR_mk b q]
    exact ⟨whE_mk q, (loM_ok _ _ _).1, (hiM_ok _ _ _).1⟩
end Go.Proofs.Ytbjeaadnanimfaa
