/- Lists of whole numbers: sums, tests for all elements, marks. Plain. -/
import Derived.Test.YtbjeaadnanimfaaMem
namespace Go.Proofs.Ytbjeaadnanimfaa
open Go.RowKit
set_option linter.unusedVariables false
set_option linter.unusedSimpArgs false

def isum : List Int → Int
  | [] => 0
  | x :: t => x + isum t
theorem isum_append (a b : List Int) : isum (a ++ b) = isum a + isum b := by
  induction a with
  | nil => simp [isum]
  | cons x t ih => simp [isum, ih]; omega
theorem take_step {α : Type} {xs : List α} {k : Nat} {x : α} (h : xs[k]? = some x) : xs.take (k + 1) = xs.take k ++ [x] := by
  rw [List.take_add_one, h]; rfl
theorem isum_step {xs : List Int} {k : Nat} {x : Int} (h : xs[k]? = some x) : isum (xs.take (k + 1)) = isum (xs.take k) + x := by
  rw [take_step h, isum_append]; simp [isum]
theorem isum_bd (M : Int) (xs : List Int) (h : ∀ x, x ∈ xs → -M ≤ x ∧ x ≤ M) : -(M * xs.length) ≤ isum xs ∧ isum xs ≤ M * xs.length := by
  induction xs with
  | nil => simp [isum]
  | cons x t ih =>
    have h1 := h x (by simp)
    have h2 := ih fun y hy => h y (by simp [hy])
    have h3 : M * ((x :: t).length : Int) = M * (t.length : Int) + M := by
      rw [List.length_cons, Int.natCast_add, Int.mul_add]; simp
    rw [h3]; simp only [isum]; omega
theorem mem_of_get {α : Type} {xs : List α} {k : Nat} {x : α} (h : xs[k]? = some x) : x ∈ xs := List.mem_of_getElem? h
theorem get_lt {α : Type} {xs : List α} {k : Nat} {x : α} (h : xs[k]? = some x) : k < xs.length := (List.getElem?_eq_some_iff.1 h).1
theorem isum_take_bd (M N : Int) (hM : 0 ≤ M) (xs : List Int) (h : ∀ x, x ∈ xs → -M ≤ x ∧ x ≤ M) (hN : M * xs.length ≤ N) (k : Nat) : -N ≤ isum (xs.take k) ∧ isum (xs.take k) ≤ N := by
  have h1 := isum_bd M (xs.take k) fun x hx => h x (List.mem_of_mem_take hx)
  have h2 : ((xs.take k).length : Int) ≤ xs.length := by have := List.length_take_le' k xs; omega
  have h3 := Int.mul_le_mul_of_nonneg_left h2 hM
  omega

def allB (xs : List Int) (lo hi : Int) : Bool := xs.all fun x => inB x lo hi
theorem allB_step {xs : List Int} {k : Nat} {x lo hi : Int} (h : xs[k]? = some x) (ha : allB (xs.take k) lo hi = true) (hx : inB x lo hi = true) : allB (xs.take (k + 1)) lo hi = true := by
  rw [take_step h]; simp only [allB] at ha; simp [allB, ha, hx]
theorem allB_f {xs : List Int} {k : Nat} {x lo hi : Int} (h : xs[k]? = some x) (hx : inB x lo hi = false) : allB xs lo hi = false := by
  cases e : allB xs lo hi
  · rfl
  · rw [allB, List.all_eq_true] at e; rw [e x (mem_of_get h)] at hx; simp at hx
theorem allB_t {xs : List Int} {lo hi : Int} (h : allB xs lo hi = true) : ∀ x, x ∈ xs → lo ≤ x ∧ x ≤ hi := by
  rw [allB, List.all_eq_true] at h; exact fun x hx => inB_t (h x hx)
theorem allB_mk {xs : List Int} {lo hi : Int} (h : ∀ x, x ∈ xs → lo ≤ x ∧ x ≤ hi) : allB xs lo hi = true := by
  rw [allB, List.all_eq_true]; exact fun x hx => inB_mk (h x hx)

/-- k, k + 1, .. -/
def marks (k : Int) : Nat → List Int
  | 0 => []
  | n + 1 => k :: marks (k + 1) n
theorem marks_length (k : Int) (n : Nat) : (marks k n).length = n := by
  induction n generalizing k with
  | zero => rfl
  | succ n ih => simp [marks, ih]
theorem marks_get (k : Int) (n j : Nat) (h : j < n) : (marks k n)[j]? = some (k + j) := by
  induction n generalizing k j with
  | zero => omega
  | succ n ih =>
    cases j with
    | zero => simp [marks]
    | succ j => rw [marks, List.getElem?_cons_succ, ih (k + 1) j (by omega)]; congr 1; omega
theorem ext_get {α : Type} {xs ys : List α} (hl : xs.length = ys.length) (h : ∀ j, j < ys.length → xs[j]? = ys[j]?) : xs = ys := by
  apply List.ext_getElem?
  intro j
  by_cases hj : j < ys.length
  · exact h j hj
  · rw [List.getElem?_eq_none (by omega), List.getElem?_eq_none (by omega)]
/-- The places of those that pass the test. -/
def idxs (p : Int → Bool) : List Int → Nat → List Int
  | [], _ => []
  | x :: t, k => if p x then (k : Int) :: idxs p t (k + 1) else idxs p t (k + 1)
theorem idxs_snoc (p : Int → Bool) (l : List Int) (x : Int) (k : Nat) : idxs p (l ++ [x]) k = idxs p l k ++ (if p x then [((k + l.length : Nat) : Int)] else []) := by
  induction l generalizing k with
  | nil => simp [idxs]
  | cons y t ih =>
    simp only [List.cons_append, idxs, ih, List.length_cons, show k + 1 + t.length = k + (t.length + 1) by omega]
    cases p y <;> simp
theorem idxs_step_t {p : Int → Bool} {xs : List Int} {k : Nat} {x : Int} (h : xs[k]? = some x) (hp : p x = true) : idxs p (xs.take (k + 1)) 0 = idxs p (xs.take k) 0 ++ [(k : Int)] := by
  rw [take_step h, idxs_snoc, if_pos hp, List.length_take, Nat.min_eq_left (by have := get_lt h; omega), Nat.zero_add]
theorem idxs_step_f {p : Int → Bool} {xs : List Int} {k : Nat} {x : Int} (h : xs[k]? = some x) (hp : p x = false) : idxs p (xs.take (k + 1)) 0 = idxs p (xs.take k) 0 := by
  rw [take_step h, idxs_snoc, if_neg (by simp [hp])]; simp
theorem idxs_length (p : Int → Bool) (xs : List Int) (k : Nat) : (idxs p xs k).length ≤ xs.length := by
  induction xs generalizing k with
  | nil => simp [idxs]
  | cons x t ih => simp only [idxs]; have := ih (k + 1); split <;> simp <;> omega
theorem idxs_take_length (p : Int → Bool) (xs : List Int) (k : Nat) : (idxs p (xs.take k) 0).length ≤ xs.length := by
  have h1 := idxs_length p (xs.take k) 0
  have h2 := List.length_take_le' k xs
  omega
end Go.Proofs.Ytbjeaadnanimfaa
