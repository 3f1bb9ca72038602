/- Chapter 9: the order of the gears, plain: no function of the program is in sight. -/
import Derived.Test.YtjnkckpebfafjaaTeeth
namespace Go.Proofs.Ytjnkckpebfafjaa
open Go.RowKit
set_option linter.unusedVariables false
set_option linter.unusedSimpArgs false

def tooth (xs : List Int) (i : Nat) : Int := xs.getD i 0
/-- The ratio of one gear less that of another one, times both wheels behind. -/
def cmpG (fs rs : List Int) (a b : Nat × Nat) : Int := tooth fs a.1 * tooth rs b.2 - tooth fs b.1 * tooth rs a.2
/-- A gear laid into an order, behind those that are not greater. -/
def insR (fs rs : List Int) : List (Nat × Nat) → Nat × Nat → List (Nat × Nat)
  | [], g => [g]
  | e :: t, g => if cmpG fs rs e g ≤ 0 then e :: insR fs rs t g else g :: e :: t
def rowG (fs rs : List Int) (L : List (Nat × Nat)) (f : Nat) : Nat → List (Nat × Nat)
  | 0 => L
  | r + 1 => insR fs rs (rowG fs rs L f r) (f, r)
def ordG (fs rs : List Int) (R : Nat) : Nat → List (Nat × Nat)
  | 0 => []
  | f + 1 => rowG fs rs (ordG fs rs R f) f R
def orderF (fs rs : List Int) : List (Nat × Nat) := ordG fs rs rs.length fs.length
theorem insR_at (fs rs : List Int) (L : List (Nat × Nat)) (g : Nat × Nat) (k : Nat) (hk : k ≤ L.length) (h1 : ∀ j e, j < k → L[j]? = some e → cmpG fs rs e g ≤ 0)
    (h2 : ∀ e, L[k]? = some e → 0 < cmpG fs rs e g) : L.take k ++ g :: L.drop k = insR fs rs L g := by
  induction L generalizing k with
  | nil => simp [insR]
  | cons e t ih =>
    cases k with
    | zero =>
      have := h2 e (by simp)
      simp only [List.take_zero, List.drop_zero, List.nil_append, insR]
      rw [if_neg (by omega)]
    | succ k =>
      have := h1 0 e (by omega) (by simp)
      simp only [insR, List.take_succ_cons, List.drop_succ_cons, List.cons_append]
      rw [if_pos this, ih k (by simpa using hk) (fun j x hj hx => h1 (j + 1) x (by omega) (by simpa using hx)) (fun x hx => h2 x (by simpa using hx))]
theorem insR_length (fs rs : List Int) (L : List (Nat × Nat)) (g : Nat × Nat) : (insR fs rs L g).length = L.length + 1 := by
  induction L with
  | nil => rfl
  | cons e t ih => simp only [insR]; split <;> simp [ih]
theorem rowG_length (fs rs : List Int) (L : List (Nat × Nat)) (f r : Nat) : (rowG fs rs L f r).length = L.length + r := by
  induction r with
  | zero => rfl
  | succ r ih => simp only [rowG, insR_length, ih]; omega
theorem ordG_length (fs rs : List Int) (R f : Nat) : (ordG fs rs R f).length = f * R := by
  induction f with
  | zero => simp [ordG]
  | succ f ih => simp only [ordG, rowG_length, ih, Nat.succ_mul]
theorem orderF_length (fs rs : List Int) : (orderF fs rs).length = fs.length * rs.length := ordG_length _ _ _ _
theorem insR_mem {fs rs : List Int} {L : List (Nat × Nat)} {g e : Nat × Nat} (h : e ∈ insR fs rs L g) : e = g ∨ e ∈ L := by
  induction L with
  | nil => simp [insR] at h; exact .inl h
  | cons x t ih =>
    simp only [insR] at h
    split at h
    · rcases List.mem_cons.1 h with h | h
      · exact .inr (by simp [h])
      · rcases ih h with h | h
        · exact .inl h
        · exact .inr (by simp [h])
    · rcases List.mem_cons.1 h with h | h
      · exact .inl h
      · exact .inr h
theorem rowG_mem {fs rs : List Int} {L : List (Nat × Nat)} {f r : Nat} {e : Nat × Nat} (h : e ∈ rowG fs rs L f r) : e ∈ L ∨ (e.1 = f ∧ e.2 < r) := by
  induction r with
  | zero => exact .inl h
  | succ r ih =>
    rcases insR_mem h with h | h
    · exact .inr (by rw [h]; exact ⟨rfl, by simp⟩)
    · rcases ih h with h | h
      · exact .inl h
      · exact .inr ⟨h.1, by omega⟩
theorem ordG_mem {fs rs : List Int} {R f : Nat} {e : Nat × Nat} (h : e ∈ ordG fs rs R f) : e.1 < f ∧ e.2 < R := by
  induction f with
  | zero => simp [ordG] at h
  | succ f ih =>
    rcases rowG_mem h with h | h
    · have := ih h; omega
    · omega
theorem orderF_mem {fs rs : List Int} {e : Nat × Nat} (h : e ∈ orderF fs rs) : e.1 < fs.length ∧ e.2 < rs.length := ordG_mem h

/-- All teeth are from 1 to 60. -/
def TeethOk (xs : List Int) : Prop := ∀ x, x ∈ xs → 1 ≤ x ∧ x ≤ 60
theorem TeethOk.at {xs : List Int} (h : TeethOk xs) {i : Nat} (hi : i < xs.length) : 1 ≤ tooth xs i ∧ tooth xs i ≤ 60 := by
  unfold tooth
  rw [List.getD_eq_getElem?_getD, List.getElem?_eq_getElem hi]
  exact h _ (List.getElem_mem hi)
theorem cmp_trans {fa ra fb rb fc rc : Int} (hra : 0 < ra) (hrb : 0 < rb) (hrc : 0 < rc) (h1 : fa * rb ≤ fb * ra) (h2 : fb * rc ≤ fc * rb) : fa * rc ≤ fc * ra := by
  have a1 : fa * rb * rc ≤ fb * ra * rc := Int.mul_le_mul_of_nonneg_right h1 (by omega)
  have a2 : fb * rc * ra ≤ fc * rb * ra := Int.mul_le_mul_of_nonneg_right h2 (by omega)
  have a3 : fb * ra * rc = fb * rc * ra := by rw [Int.mul_assoc, Int.mul_comm ra rc, ← Int.mul_assoc]
  have a4 : fa * rb * rc = fa * rc * rb := by rw [Int.mul_assoc, Int.mul_comm rb rc, ← Int.mul_assoc]
  have a5 : fc * rb * ra = fc * ra * rb := by rw [Int.mul_assoc, Int.mul_comm rb ra, ← Int.mul_assoc]
  exact Int.le_of_mul_le_mul_right (by omega : fa * rc * rb ≤ fc * ra * rb) hrb
/-- The gears are there. -/
def InG (fs rs : List Int) (L : List (Nat × Nat)) : Prop := ∀ e, e ∈ L → e.1 < fs.length ∧ e.2 < rs.length
theorem cmpG_trans {fs rs : List Int} (hr : TeethOk rs) {a b c : Nat × Nat} (ha : a.2 < rs.length) (hb : b.2 < rs.length) (hc : c.2 < rs.length) (h1 : cmpG fs rs a b ≤ 0) (h2 : cmpG fs rs b c ≤ 0) : cmpG fs rs a c ≤ 0 := by
  have r1 := (hr.at ha).1
  have r2 := (hr.at hb).1
  have r3 := (hr.at hc).1
  unfold cmpG at *
  have := cmp_trans (fa := tooth fs a.1) (ra := tooth rs a.2) (fb := tooth fs b.1) (rb := tooth rs b.2) (fc := tooth fs c.1) (rc := tooth rs c.2) (by omega) (by omega) (by omega) (by omega) (by omega)
  omega
theorem cmpG_neg (fs rs : List Int) (a b : Nat × Nat) : cmpG fs rs a b = -cmpG fs rs b a := by unfold cmpG; omega
def SrtG (fs rs : List Int) (L : List (Nat × Nat)) : Prop := L.Pairwise fun a b => cmpG fs rs a b ≤ 0
theorem insR_srt {fs rs : List Int} (hr : TeethOk rs) {L : List (Nat × Nat)} {g : Nat × Nat} (hg : g.2 < rs.length) (hL : InG fs rs L) (h : SrtG fs rs L) : SrtG fs rs (insR fs rs L g) := by
  induction L with
  | nil => simp [insR, SrtG]
  | cons e t ih =>
    have h' := List.pairwise_cons.1 h
    have he := hL e (by simp)
    simp only [insR]
    split
    · rename_i hc
      refine List.pairwise_cons.2 ⟨fun x hx => ?_, ih (fun x hx => hL x (by simp [hx])) h'.2⟩
      rcases insR_mem hx with rfl | hx
      · exact hc
      · exact h'.1 x hx
    · rename_i hc
      have hge : cmpG fs rs g e ≤ 0 := by rw [cmpG_neg]; omega
      refine List.pairwise_cons.2 ⟨fun x hx => ?_, h⟩
      rcases List.mem_cons.1 hx with rfl | hx
      · exact hge
      · exact cmpG_trans hr hg he.2 (hL x (by simp [hx])).2 hge (h'.1 x hx)
theorem rowG_srt {fs rs : List Int} (hr : TeethOk rs) {L : List (Nat × Nat)} {f r : Nat} (hf : f < fs.length) (hrl : r ≤ rs.length) (hL : InG fs rs L) (h : SrtG fs rs L) : SrtG fs rs (rowG fs rs L f r) ∧ InG fs rs (rowG fs rs L f r) := by
  induction r with
  | zero => exact ⟨h, hL⟩
  | succ r ih =>
    obtain ⟨i1, i2⟩ := ih (by omega)
    refine ⟨insR_srt hr (by show r < _; omega) i2 i1, fun e he => ?_⟩
    rcases insR_mem he with rfl | he
    · exact ⟨hf, by show r < _; omega⟩
    · exact i2 e he
theorem ordG_srt {fs rs : List Int} (hr : TeethOk rs) {f : Nat} (hf : f ≤ fs.length) : SrtG fs rs (ordG fs rs rs.length f) ∧ InG fs rs (ordG fs rs rs.length f) := by
  induction f with
  | zero => exact ⟨List.Pairwise.nil, fun e he => by simp [ordG] at he⟩
  | succ f ih =>
    obtain ⟨i1, i2⟩ := ih (by omega)
    exact rowG_srt hr (by omega) (Nat.le_refl _) i2 i1
/-- The place of the search from behind. -/
theorem insR_at_back {fs rs : List Int} (hr : TeethOk rs) {L : List (Nat × Nat)} {g : Nat × Nat} {k : Nat} (hk : k ≤ L.length) (hg : g.2 < rs.length) (hL : InG fs rs L) (hS : SrtG fs rs L)
    (h1 : ∀ e, 0 < k → L[k - 1]? = some e → cmpG fs rs e g ≤ 0) (h2 : ∀ e, L[k]? = some e → 0 < cmpG fs rs e g) : L.take k ++ g :: L.drop k = insR fs rs L g := by
  refine insR_at fs rs L g k hk (fun j e hj he => ?_) h2
  have hk1 : k - 1 < L.length := by omega
  have hl := h1 L[k - 1] (by omega) (List.getElem?_eq_getElem hk1)
  have hjl := get_lt he
  obtain rfl : L[j] = e := by rw [List.getElem?_eq_getElem hjl] at he; simpa using he
  by_cases e : j = k - 1
  · subst e; exact hl
  · have h3 := (List.pairwise_iff_getElem.1 hS) j (k - 1) hjl hk1 (by omega)
    exact cmpG_trans hr (hL _ (List.getElem_mem hjl)).2 (hL _ (List.getElem_mem hk1)).2 hg h3 hl
end Go.Proofs.Ytjnkckpebfafjaa
