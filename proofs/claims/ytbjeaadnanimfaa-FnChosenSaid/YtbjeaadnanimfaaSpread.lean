/- What turning nipples does to a list, in plain lists: each turn adds a weight at the places near a spoke. -/
import Derived.Test.YtbjeaadnanimfaaList
namespace Go.Proofs.Ytbjeaadnanimfaa
open Go.RowKit
set_option linter.unusedVariables false
set_option linter.unusedSimpArgs false

def addAt (l : List Int) (p : Nat) (y : Int) : List Int := l.set p (l.getD p 0 + y)
theorem addAt_length (l : List Int) (p : Nat) (y : Int) : (addAt l p y).length = l.length := by simp [addAt]
theorem addAt_get (l : List Int) (p : Nat) (y : Int) (j : Nat) (hj : j < l.length) : (addAt l p y).getD j 0 = l.getD j 0 + if p = j then y else 0 := by
  simp only [addAt, List.getD_eq_getElem?_getD, List.getElem?_set]
  by_cases h : p = j
  · subst h; simp [hj]
  · simp [h]
theorem addAt_zero (l : List Int) (p : Nat) : addAt l p 0 = l := by
  apply List.ext_getElem?
  intro j
  simp only [addAt, List.getElem?_set]
  by_cases h : p = j
  · subst h
    by_cases hl : p < l.length <;> simp [hl]
  · simp [h]
theorem isum_set (l : List Int) (p : Nat) (x : Int) (hp : p < l.length) : isum (l.set p x) = isum l - l.getD p 0 + x := by
  induction l generalizing p with
  | nil => simp at hp
  | cons a t ih =>
    cases p with
    | zero => simp [isum]; omega
    | succ p => simp only [List.set_cons_succ, isum]; rw [ih p (by simpa using hp)]; simp; omega
theorem isum_addAt (l : List Int) (p : Nat) (y : Int) (hp : p < l.length) : isum (addAt l p y) = isum l + y := by
  rw [addAt, isum_set _ _ _ hp]; omega
def AllLe (M : Int) (l : List Int) : Prop := ∀ x, x ∈ l → -M ≤ x ∧ x ≤ M
theorem AllLe.get {M : Int} {l : List Int} (h : AllLe M l) (hM : 0 ≤ M) (j : Nat) : -M ≤ l.getD j 0 ∧ l.getD j 0 ≤ M := by
  rw [List.getD_eq_getElem?_getD]
  cases e : l[j]? with
  | none => simp; omega
  | some x => simpa using h x (mem_of_get e)
theorem AllLe.addAt {M K : Int} {l : List Int} (h : AllLe M l) (hM : 0 ≤ M) (p : Nat) (y : Int) (hy : -K ≤ y ∧ y ≤ K) : AllLe (M + K) (addAt l p y) := by
  intro x hx
  have hg := h.get hM p
  rcases List.mem_or_eq_of_mem_set hx with h1 | h1
  · have := h x h1; omega
  · subst h1; omega
theorem AllLe.mono {M N : Int} {l : List Int} (h : AllLe M l) (hN : M ≤ N) : AllLe N l := fun x hx => by have := h x hx; omega

def spStep (n i q : Int) (d : Nat) (w : Int) (l : List Int) : List Int :=
  if 0 < d then addAt (addAt l (pos (i - d) n) (q * w)) (pos (i + d) n) (q * w) else addAt l (pos (i - d) n) (q * w)
def spAux (n i q : Int) : Nat → List Int → List Int → List Int
  | _, [], l => l
  | d, w :: ws, l => spAux n i q (d + 1) ws (spStep n i q d w l)
/-- After the nipple i has been turned by q. -/
def spread (l ws : List Int) (i q : Int) : List Int := spAux l.length i q 0 ws l
def turnAux (ws : List Int) : Nat → List Int → List Int → List Int
  | _, [], l => l
  | i, t :: ts, l => turnAux ws (i + 1) ts (spread l ws i t)
/-- After all nipples have been turned. -/
def turnF (l ws ts : List Int) : List Int := turnAux ws 0 ts l
theorem spStep_length (n i q : Int) (d : Nat) (w : Int) (l : List Int) : (spStep n i q d w l).length = l.length := by
  unfold spStep; split <;> simp [addAt_length]
theorem spAux_length (n i q : Int) (d : Nat) (ws l : List Int) : (spAux n i q d ws l).length = l.length := by
  induction ws generalizing d l with
  | nil => rfl
  | cons w ws ih => rw [spAux, ih, spStep_length]
theorem spread_length (l ws : List Int) (i q : Int) : (spread l ws i q).length = l.length := spAux_length ..
theorem turnAux_length (ws : List Int) (i : Nat) (ts l : List Int) : (turnAux ws i ts l).length = l.length := by
  induction ts generalizing i l with
  | nil => rfl
  | cons t ts ih => rw [turnAux, ih, spread_length]
theorem turnF_length (l ws ts : List Int) : (turnF l ws ts).length = l.length := turnAux_length ..
theorem spStep_bd {M K n i q : Int} {d : Nat} {w : Int} {l : List Int} (h : AllLe M l) (hM : 0 ≤ M) (hK : 0 ≤ K) (hq : -K ≤ q * w ∧ q * w ≤ K) : AllLe (M + 2 * K) (spStep n i q d w l) := by
  unfold spStep
  split
  · exact ((h.addAt hM _ _ hq).addAt (by omega) _ _ hq).mono (by omega)
  · exact (h.addAt hM _ _ hq).mono (by omega)
theorem spAux_bd {K n i q : Int} (hK : 0 ≤ K) (ws : List Int) (hq : ∀ w, w ∈ ws → -K ≤ q * w ∧ q * w ≤ K) (d : Nat) {M : Int} {l : List Int} (h : AllLe M l) (hM : 0 ≤ M) :
    AllLe (M + 2 * K * ws.length) (spAux n i q d ws l) := by
  induction ws generalizing d l M with
  | nil => exact h.mono (by simp)
  | cons w ws ih =>
    have h1 := spStep_bd (n := n) (i := i) (d := d) h hM hK (hq w (by simp))
    refine (ih (fun x hx => hq x (by simp [hx])) (d + 1) h1 (by omega)).mono ?_
    have : 2 * K * ((w :: ws).length : Int) = 2 * K * (ws.length : Int) + 2 * K := by rw [List.length_cons, Int.natCast_add, Int.mul_add]; simp
    omega
theorem spread_zero (l ws : List Int) (i : Int) : spread l ws i 0 = l := by
  unfold spread
  suffices ∀ (n : Int) (d : Nat) (m : List Int), spAux n i 0 d ws m = m from this _ _ _
  intro n d m
  induction ws generalizing d m with
  | nil => rfl
  | cons w ws ih =>
    rw [spAux, ih]
    unfold spStep
    rw [Int.zero_mul]
    split <;> simp [addAt_zero]

/-! ### What it comes to at each place -/
def coefAux (n i : Int) (j : Nat) : Nat → List Int → Int
  | _, [] => 0
  | d, w :: ws => (if pos (i - d) n = j then w else 0) + (if 0 < d ∧ pos (i + d) n = j then w else 0) + coefAux n i j (d + 1) ws
theorem spAux_get (n i q : Int) (ws : List Int) (j : Nat) (d : Nat) (l : List Int) (hj : j < l.length) : (spAux n i q d ws l).getD j 0 = l.getD j 0 + q * coefAux n i j d ws := by
  induction ws generalizing d l with
  | nil => simp [spAux, coefAux]
  | cons w ws ih =>
    rw [spAux, ih _ _ (by rw [spStep_length]; exact hj), coefAux]
    have e : (spStep n i q d w l).getD j 0 = l.getD j 0 + q * (if pos (i - d) n = j then w else 0) + q * (if 0 < d ∧ pos (i + d) n = j then w else 0) := by
      unfold spStep
      by_cases hd : 0 < d
      · rw [if_pos hd, addAt_get _ _ _ _ (by rw [addAt_length]; exact hj), addAt_get _ _ _ _ hj]
        simp only [hd, true_and]
        split <;> split <;> simp
      · rw [if_neg hd, addAt_get _ _ _ _ hj]
        simp only [hd, false_and, if_false, Int.mul_zero, Int.add_zero]
        split <;> simp
    rw [e, Int.mul_add, Int.mul_add]; omega
def linAux (ws : List Int) (n : Int) (j : Nat) : Nat → List Int → Int
  | _, [] => 0
  | i, t :: ts => t * coefAux n i j 0 ws + linAux ws n j (i + 1) ts
theorem turnAux_get (ws : List Int) (j : Nat) (ts : List Int) (i : Nat) (l : List Int) (hj : j < l.length) : (turnAux ws i ts l).getD j 0 = l.getD j 0 + linAux ws l.length j i ts := by
  induction ts generalizing i l with
  | nil => simp [turnAux, linAux]
  | cons t ts ih =>
    rw [turnAux, ih _ _ (by rw [spread_length]; exact hj), linAux, spread_length, spread, spAux_get _ _ _ _ _ _ _ hj]; omega
theorem linAux_neg (ws : List Int) (n : Int) (j : Nat) (i : Nat) (ts : List Int) : linAux ws n j i (ts.map (- ·)) = - linAux ws n j i ts := by
  induction ts generalizing i with
  | nil => simp [linAux]
  | cons t ts ih => simp only [List.map_cons, linAux, ih, Int.neg_mul]; omega
theorem ext_getD {xs ys : List Int} (hl : xs.length = ys.length) (h : ∀ j, j < ys.length → xs.getD j 0 = ys.getD j 0) : xs = ys := by
  refine ext_get hl fun j hj => ?_
  have := h j hj
  simp only [List.getD_eq_getElem?_getD, List.getElem?_eq_getElem hj, List.getElem?_eq_getElem (hl ▸ hj : j < xs.length), Option.getD_some] at this
  rw [List.getElem?_eq_getElem hj, List.getElem?_eq_getElem (hl ▸ hj : j < xs.length), this]
/-- Turning all nipples back undoes it. -/
theorem turnF_undo (l ws ts : List Int) : turnF (turnF l ws ts) ws (ts.map (- ·)) = l := by
  refine ext_getD (by rw [turnF_length, turnF_length]) fun j hj => ?_
  have h1 := turnAux_get ws j (ts.map (- ·)) 0 (turnF l ws ts) (by rw [turnF_length]; exact hj)
  have h2 := turnAux_get ws j ts 0 l hj
  rw [turnF_length, linAux_neg] at h1
  unfold turnF at h1 ⊢
  rw [h1, h2]; omega

/-! ### The sum -/
def gsum : Nat → List Int → Int
  | _, [] => 0
  | d, w :: ws => (if 0 < d then 2 * w else w) + gsum (d + 1) ws
theorem gsum_pos (d : Nat) (ws : List Int) (hd : 0 < d) : gsum d ws = 2 * isum ws := by
  induction ws generalizing d with
  | nil => rfl
  | cons w ws ih => rw [gsum, ih _ (by omega), if_pos hd, isum]; omega
def gainF (ws : List Int) : Int := 2 * isum ws - ws.getD 0 0
theorem gsum_zero (ws : List Int) : gsum 0 ws = gainF ws := by
  cases ws with
  | nil => rfl
  | cons w ws => rw [gsum, gsum_pos _ _ (by omega), gainF]; simp [isum]; omega
theorem isum_spAux (i q : Int) (ws : List Int) (d : Nat) (l : List Int) (hl : 0 < l.length) : isum (spAux l.length i q d ws l) = isum l + q * gsum d ws := by
  suffices ∀ n : Nat, 0 < n → ∀ d (l : List Int), l.length = n → isum (spAux n i q d ws l) = isum l + q * gsum d ws from this _ hl _ _ rfl
  intro n hn d l hl
  induction ws generalizing d l with
  | nil => simp [spAux, gsum]
  | cons w ws ih =>
    rw [spAux, ih _ _ (by rw [spStep_length]; exact hl), gsum, Int.mul_add]
    have e : isum (spStep n i q d w l) = isum l + q * (if 0 < d then 2 * w else w) := by
      have p1 := pos_lt (i - d) hn
      have p2 := pos_lt (i + d) hn
      unfold spStep
      by_cases hd : 0 < d
      · rw [if_pos hd, if_pos hd, isum_addAt _ _ _ (by rw [addAt_length]; omega), isum_addAt _ _ _ (by omega), Int.mul_left_comm]; omega
      · rw [if_neg hd, if_neg hd, isum_addAt _ _ _ (by omega)]
    rw [e]; omega
theorem isum_turnAux (ws : List Int) (ts : List Int) (i : Nat) (l : List Int) (hl : 0 < l.length) : isum (turnAux ws i ts l) = isum l + isum ts * gainF ws := by
  induction ts generalizing i l with
  | nil => simp [turnAux, isum]
  | cons t ts ih =>
    rw [turnAux, ih _ _ (by rw [spread_length]; exact hl), spread, isum_spAux _ _ _ _ _ hl, gsum_zero, isum, Int.add_mul]; omega
theorem isum_turnF (l ws ts : List Int) (hl : 0 < l.length) : isum (turnF l ws ts) = isum l + isum ts * gainF ws := isum_turnAux _ _ _ _ hl
/-! ### One nipple alone -/
def oneF (n k : Nat) (q : Int) : List Int := (List.replicate n 0).set k q
theorem oneF_length (n k : Nat) (q : Int) : (oneF n k q).length = n := by simp [oneF]
theorem turnAux_zeros (ws : List Int) (n i : Nat) (l : List Int) : turnAux ws i (List.replicate n 0) l = l := by
  induction n generalizing i with
  | zero => rfl
  | succ n ih => rw [List.replicate_succ, turnAux, spread_zero, ih]
theorem turnAux_one (ws : List Int) (n k i : Nat) (q : Int) (l : List Int) (h : k < n) : turnAux ws i (oneF n k q) l = spread l ws (i + k : Nat) q := by
  induction n generalizing k i with
  | zero => omega
  | succ n ih =>
    cases k with
    | zero => rw [oneF, List.replicate_succ, List.set_cons_zero, turnAux, turnAux_zeros]; simp
    | succ k =>
      have e : oneF (n + 1) (k + 1) q = 0 :: oneF n k q := by simp [oneF, List.replicate_succ]
      rw [e, turnAux, spread_zero, ih k (i + 1) (by omega), show i + 1 + k = i + (k + 1) by omega]
theorem turnF_one (l ws : List Int) (k : Nat) (q : Int) (h : k < l.length) : turnF l ws (oneF l.length k q) = spread l ws k q := by
  rw [turnF, turnAux_one _ _ _ _ _ _ h, Nat.zero_add]
end Go.Proofs.Ytbjeaadnanimfaa
