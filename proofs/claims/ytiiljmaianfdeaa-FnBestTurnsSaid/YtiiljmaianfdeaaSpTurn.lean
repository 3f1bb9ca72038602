/- The contracts of turning nipples. -/
import Derived.Test.YtiiljmaianfdeaaApp
import Derived.Test.YtiiljmaianfdeaaSpread
namespace Go.Proofs.Ytiiljmaianfdeaa
open Go.RowKit
set_option linter.unusedVariables false
set_option linter.unusedSimpArgs false

set_option maxRecDepth 20000 in
set_option maxHeartbeats 400000 in
theorem l07One_c (n k : Nat) (q : Int) (w : World) (hn : (n : Int) ≤ 48) (hk : k < n) :
    Calls Try.prog 76 #[.int .i64 (n : Int), .int .i64 (k : Int), .int .i64 q] w (NewI w (oneF n k q)) := by
  have i1 : (k : Int) < (n : Int) := by omega
  go_enter Try.func76, Try.ntmps76
  go_wp2_with (at_make; refine wpList_mkI rfl _ _ rfl .i64 .i64 n rfl rfl (by omega) (Upd.refl w) ?_; intro w1 h1 h2 h3; have hc := h1.cell (k := k) (x := 0) (by simp [hk]); have hf := h1.free k; have HO := Lib.hid (h1.set k q (by simpa using hk)); have HU := Lib.hid (h2.setCell (p := ⟨w.heap.size, k, none⟩) (.int .i64 q) (.inr (Nat.le_refl _))); clear h1 h2 h3)
  go_ret
  exact ⟨_, rfl, HO.out, HU.out⟩
theorem spAux_cons {n i q : Int} {k : Nat} {ws : List Int} {x : Int} (h : ws[k]? = some x) (l : List Int) : spAux n i q k (ws.drop k) l = spAux n i q (k + 1) (ws.drop (k + 1)) (spStep n i q k x l) := by
  rw [List.drop_eq_getElem_cons (get_lt h), (List.getElem?_eq_some_iff.1 h).2]; rfl
/-- What stands in the list after some of the weights. -/
def Sp (w : World) (B g c : Nat) (xs ws : List Int) (i q K M : Int) (k : Nat) : Prop :=
  ∃ ys, OwnI w B (.slice (some ⟨g, 0, none⟩) xs.length c) ys ∧ AllLe (M + 2 * K * k) ys ∧ ys.length = xs.length ∧ spAux xs.length i q k (ws.drop k) ys = spread xs ws i q
/-- The list reads as ys; nothing else has turned. -/
def Turned (w : World) (B g n c : Nat) (ys : List Int) (e : Ending) (w' : World) : Prop :=
  e = .returned (.tuple #[]) ∧ OwnI w' B (.slice (some ⟨g, 0, none⟩) n c) ys ∧ Upd [g] w w'
theorem add_getD {ys : List Int} {p : Nat} {y z : Int} (h : ys.getD p 0 = y) : addAt ys p z = ys.set p (y + z) := by rw [addAt, h]
theorem get_of_getD {ys : List Int} {p : Nat} {y : Int} (hp : p < ys.length) (h : ys.getD p 0 = y) : ys[p]? = some y := by
  rw [List.getElem?_eq_getElem hp, ← h, List.getD_eq_getElem?_getD, List.getElem?_eq_getElem hp]; rfl
set_option maxRecDepth 20000 in
set_option maxHeartbeats 800000 in
theorem spreadTurn_c (g c : Nat) (b : Option Addr) (d : Nat) (xs ws : List Int) (i q K M : Int) (B : Nat) (w : World) (h : OwnI w B (.slice (some ⟨g, 0, none⟩) xs.length c) xs) (hw : IntsAt w b ws)
    (hne : ∀ ad, b = some ad → ad.block ≠ g) (hn : 1 ≤ (xs.length : Int) ∧ (xs.length : Int) ≤ 48) (hl : (ws.length : Int) ≤ 4) (hi : 0 ≤ i ∧ i ≤ 48) (hq : ∀ x, x ∈ ws → -K ≤ q * x ∧ q * x ≤ K)
    (hK : 0 ≤ K ∧ K ≤ 1000000000) (hM : 0 ≤ M ∧ M ≤ 1000000000000) (hx : AllLe M xs) :
    Calls Try.prog 91 #[.slice (some ⟨g, 0, none⟩) xs.length c, .slice b ws.length d, .int .i64 i, .int .i64 q] w (Turned w B g xs.length c (spread xs ws i q)) := by
  have HS0 : Hid (Sp w B g c xs ws i q K M 0) := ⟨xs, h, hx.mono (by omega), rfl, rfl⟩
  have HW : Hid (∀ w', Upd [g] w w' → IntsAt w' b ws) := fun w' u => hw.kept u fun ad e => by simpa using hne ad e
  have HQ := Lib.hid hq
  have HU0 : Hid (Upd [g] w w) := (Upd.refl w).mono (by simp)
  clear h hw hne hq hx
  go_enter Try.func91, Try.ntmps91
  go_wp2
  go_loopw [15] (fun v wr => ∃ k : Nat, k ≤ ws.length ∧ v = .int .i64 k ∧ Hid (Sp wr B g c xs ws i q K M k) ∧ Hid (Upd [g] w wr)) (fun v _ => ws.length - (intOf v).toNat)
  case atStart => exact ⟨0, by omega, rfl, HS0, HU0⟩
  case round =>
    clear HS0 HU0
    obtain ⟨k, hk, rfl, HS, HU⟩ := hrel
    by_cases hlt : k < ws.length
    · obtain ⟨bb, off, x, rfl, hcx, hx⟩ := (HW.out _ HU.out).get hlt
      have hqx := HQ.out x (mem_of_get hx.out)
      obtain ⟨ys, h1, h2, h3, h4⟩ := HS.out
      have hkK : 2 * K * k ≤ 8 * K := by
        have h5 : 2 * K * (k : Int) ≤ 2 * K * 4 := Int.mul_le_mul_of_nonneg_left (by omega) (by omega)
        omega
      have hkK0 : 0 ≤ 2 * K * (k : Int) := Int.mul_nonneg (by omega) (by omega)
      obtain ⟨p1, HP1⟩ : ∃ p, Hid (pos (i - k) xs.length = p) := ⟨_, rfl⟩
      have hp1 : p1 < xs.length := by rw [← HP1.out]; exact pos_lt _ (by omega)
      obtain ⟨y1, hy1⟩ : ∃ y, ys.getD p1 0 = y := ⟨_, rfl⟩
      have hb1 := h2.get (by omega) p1
      rw [hy1] at hb1
      have hg1 := get_of_getD (by omega) hy1
      have hc1 := h1.cell hg1
      have hf1 := h1.free p1
      have hO1 := h1.set p1 (y1 + q * x) (by omega)
      have hA1 : AllLe (M + 2 * K * k + K) (ys.set p1 (y1 + q * x)) := by rw [← add_getD hy1]; exact h2.addAt (by omega) _ _ hqx
      by_cases hk0 : k = 0
      · have hd : ¬ 0 < k := by omega
        have hs : spStep xs.length i q k x ys = ys.set p1 (y1 + q * x) := by rw [spStep, if_neg hd, HP1.out, add_getD hy1]
        have HN : Hid (Sp (wr.setCell ⟨g, p1, none⟩ (.int .i64 (y1 + q * x))) B g c xs ws i q K M (k + 1)) := by
          refine ⟨_, hO1, hA1.mono ?_, by simp [h3], ?_⟩
          · have : 2 * K * ((k + 1 : Nat) : Int) = 2 * K * (k : Int) + 2 * K := by rw [Int.natCast_add, Int.mul_add]; simp
            omega
          · rw [← hs, ← spAux_cons hx.out]; exact h4
        have HU2 : Hid (Upd [g] w (wr.setCell ⟨g, p1, none⟩ (.int .i64 (y1 + q * x)))) := (HU.out).setCell _ (.inl (by simp))
        have hd2 : decide (0 < k) = false := decide_eq_false hd
        have i1 : (p1 : Int) < (xs.length : Int) := by omega
        clear h1 h2 h3 h4 hy1 hg1 hO1 hA1 hs HS hk0 hd
        go_wp2_with (go_at_call 95; refine (floorMod_p _ _ p1 _ (by omega) (by omega) HP1.out).mono ?_; rintro e w' ⟨rfl, rfl⟩)
        go_roundw
        case rel => exact ⟨k + 1, by omega, by go_num, HN, HU2⟩
        case measure => simp [intOf]; omega
      · have hd : 0 < k := by omega
        obtain ⟨p2, HP2⟩ : ∃ p, Hid (pos (i + k) xs.length = p) := ⟨_, rfl⟩
        have hp2 : p2 < xs.length := by rw [← HP2.out]; exact pos_lt _ (by omega)
        obtain ⟨y2, hy2⟩ : ∃ y, (ys.set p1 (y1 + q * x)).getD p2 0 = y := ⟨_, rfl⟩
        have hb2 := hA1.get (by omega) p2
        rw [hy2] at hb2
        have hg2 := get_of_getD (by simp; omega) hy2
        have hc2 := hO1.cell hg2
        have hf2 := hO1.free p2
        have hO2 := hO1.set p2 (y2 + q * x) (by simp; omega)
        have hs : spStep xs.length i q k x ys = (ys.set p1 (y1 + q * x)).set p2 (y2 + q * x) := by
          rw [spStep, if_pos hd, HP1.out, HP2.out, add_getD hy1, add_getD hy2]
        have HN : Hid (Sp ((wr.setCell ⟨g, p1, none⟩ (.int .i64 (y1 + q * x))).setCell ⟨g, p2, none⟩ (.int .i64 (y2 + q * x))) B g c xs ws i q K M (k + 1)) := by
          refine ⟨_, hO2, ?_, by simp [h3], ?_⟩
          · rw [← add_getD hy2]
            refine (hA1.addAt (by omega) _ _ hqx).mono ?_
            have : 2 * K * ((k + 1 : Nat) : Int) = 2 * K * (k : Int) + 2 * K := by rw [Int.natCast_add, Int.mul_add]; simp
            omega
          · rw [← hs, ← spAux_cons hx.out]; exact h4
        have HU2 : Hid (Upd [g] w ((wr.setCell ⟨g, p1, none⟩ (.int .i64 (y1 + q * x))).setCell ⟨g, p2, none⟩ (.int .i64 (y2 + q * x)))) := ((HU.out).setCell _ (.inl (by simp))).setCell _ (.inl (by simp))
        have i1 : (p1 : Int) < (xs.length : Int) := by omega
        have i2 : (p2 : Int) < (xs.length : Int) := by omega
        clear h1 h2 h3 h4 hy1 hg1 hO1 hA1 hs HS hk0 hy2 hg2 hO2
        go_wp2_with fail
        refine (floorMod_p _ _ p1 _ (by omega) (by omega) HP1.out).mono ?_
        rintro e w' ⟨rfl, rfl⟩
        go_wp2_with fail
        refine (floorMod_p _ _ p2 _ (by omega) (by omega) HP2.out).mono ?_
        rintro e w' ⟨rfl, rfl⟩
        go_wp2_with fail
        go_roundw
        case rel => exact ⟨k + 1, by omega, by go_num, HN, HU2⟩
        case measure => simp [intOf]; omega
    · obtain rfl : k = ws.length := by omega
      go_wp2
      go_end0
      obtain ⟨ys, h1, h2, h3, h4⟩ := HS.out
      refine ⟨rfl, ?_, HU.out⟩
      rw [← h4, List.drop_length]; exact h1
theorem spreadTurn_n (g c n : Nat) (b : Option Addr) (d : Nat) (xs ws : List Int) (i q K M : Int) (B : Nat) (w : World) (e : xs.length = n) (h : OwnI w B (.slice (some ⟨g, 0, none⟩) n c) xs) (hw : IntsAt w b ws)
    (hne : ∀ ad, b = some ad → ad.block ≠ g) (hn : 1 ≤ (n : Int) ∧ (n : Int) ≤ 48) (hl : (ws.length : Int) ≤ 4) (hi : 0 ≤ i ∧ i ≤ 48) (hq : ∀ x, x ∈ ws → -K ≤ q * x ∧ q * x ≤ K)
    (hK : 0 ≤ K ∧ K ≤ 1000000000) (hM : 0 ≤ M ∧ M ≤ 1000000000000) (hx : AllLe M xs) :
    Calls Try.prog 91 #[.slice (some ⟨g, 0, none⟩) n c, .slice b ws.length d, .int .i64 i, .int .i64 q] w (Turned w B g n c (spread xs ws i q)) := by
  subst e; exact spreadTurn_c g c b d xs ws i q K M B w h hw hne hn hl hi hq hK hM hx
theorem turnAux_cons {ws ts : List Int} {k : Nat} {t : Int} (h : ts[k]? = some t) (l : List Int) : turnAux ws k (ts.drop k) l = turnAux ws (k + 1) (ts.drop (k + 1)) (spread l ws k t) := by
  rw [List.drop_eq_getElem_cons (get_lt h), (List.getElem?_eq_some_iff.1 h).2]; rfl
theorem mul_bd {a b A B : Int} (h1 : -A ≤ a ∧ a ≤ A) (h2 : -B ≤ b ∧ b ≤ B) : -(A * B) ≤ a * b ∧ a * b ≤ A * B := by
  have hA : 0 ≤ A := by omega
  have hB : 0 ≤ B := by omega
  have e1 : a * b = -((-a) * b) := by rw [Int.neg_mul]; omega
  have e2 : a * b = -(a * (-b)) := by rw [Int.mul_neg]; omega
  have e3 : a * b = (-a) * (-b) := by rw [Int.neg_mul_neg]
  by_cases ha : 0 ≤ a <;> by_cases hb : 0 ≤ b
  · have := Int.mul_nonneg ha hb; have := Int.mul_le_mul h1.2 h2.2 hb hA; omega
  · have h3 := Int.mul_nonneg ha (show 0 ≤ -b by omega); have h4 := Int.mul_le_mul h1.2 (show -b ≤ B by omega) (by omega) hA; omega
  · have h3 := Int.mul_nonneg (show 0 ≤ -a by omega) hb; have h4 := Int.mul_le_mul (show -a ≤ A by omega) h2.2 hb hA; omega
  · have h3 := Int.mul_nonneg (show 0 ≤ -a by omega) (show 0 ≤ -b by omega); have h4 := Int.mul_le_mul (show -a ≤ A by omega) (show -b ≤ B by omega) (by omega) hA; omega
/-- What stands in the list after some of the nipples. -/
def Tn (w : World) (B g c : Nat) (xs ws ts : List Int) (M D : Int) (k : Nat) : Prop :=
  ∃ ys, OwnI w B (.slice (some ⟨g, 0, none⟩) xs.length c) ys ∧ AllLe (M + D * k) ys ∧ ys.length = xs.length ∧ turnAux ws k (ts.drop k) ys = turnF xs ws ts
end Go.Proofs.Ytiiljmaianfdeaa
