/- The contracts of turning nipples. -/
import Derived.Test.YtdjdddepplaagaaApp
import Derived.Test.YtdjdddepplaagaaSpread
namespace Go.Proofs.Ytdjdddepplaagaa
open Go.RowKit
set_option linter.unusedVariables false
set_option linter.unusedSimpArgs false

set_option maxRecDepth 20000 in
set_option maxHeartbeats 400000 in
theorem l07One_c (n k : Nat) (q : Int) (w : World) (hn : (n : Int) ≤ 48) (hk : k < n) :
    Calls Try.prog 134 #[.int .i64 (n : Int), .int .i64 (k : Int), .int .i64 q] w (NewI w (oneF n k q)) := by
  have i1 : (k : Int) < (n : Int) := by omega
  go_enter Try.func134, Try.ntmps134
  go_wp2_with (at_make; refine wpList_mkI rfl _ _ rfl .i64 .i64 n rfl rfl (by omega) (Upd.refl w) ?_; intro w1 h1 h2 h3; have hc := h1.cell (k := k) (x := 0) (by simp [hk]); have hf := h1.free k; have HO := Lib.hid (h1.set k q (by simpa using hk)); have HU := Lib.hid (h2.setCell (p := ⟨w.heap.size, k, none⟩) (.int .i64 q) (.inr (Nat.le_refl _))); clear h1 h2 h3)
  go_ret
  exact ⟨_, rfl, HO.out, HU.out⟩
theorem spAux_cons {n i q : Int} {k : Nat} {ws : List Int} {x : Int} (h : ws[k]? = some x) (l : List Int) : spAux n i q k (ws.drop k) l = spAux n i q (k + 1) (ws.drop (k + 1)) (spStep n i q k x l) := by
  rw [List.drop_eq_getElem_cons (get_lt h), (List.getElem?_eq_some_iff.1 h).2]; rfl
/-- What stands in the list after some of the weights. -/
def Sp (w : World) (B g c : Nat) (xs ws : List Int) (i q K M : Int) (k : Nat) : Prop :=
  ∃ ys, OwnI w B (.slice (some ⟨g, 0, none⟩) xs.length c) ys ∧ AllLe (M + 2 * K * k) ys ∧ ys.length = xs.length ∧ spAux xs.length i q k (ws.drop k) ys = spread xs ws i q
/-- The list reads as ys; nothing else has turned. -/
def Turned (w : World) (B g n c : Nat) (ys : List Int) (e : Ending) (w' : World) : Prop :=
  e = .returned (.tuple #[]) ∧ OwnI w' B (.slice (some ⟨g, 0, none⟩) n c) ys ∧ Upd [g] w w'
theorem add_getD {ys : List Int} {p : Nat} {y z : Int} (h : ys.getD p 0 = y) : addAt ys p z = ys.set p (y + z) := by rw [addAt, h]
theorem get_of_getD {ys : List Int} {p : Nat} {y : Int} (hp : p < ys.length) (h : ys.getD p 0 = y) : ys[p]? = some y := by
  rw [List.getElem?_eq_getElem hp, ← h, List.getD_eq_getElem?_getD, List.getElem?_eq_getElem hp]; rfl
set_option maxRecDepth 20000 in
set_option maxHeartbeats 800000 in
theorem spreadTurn_c (g c : Nat) (b : Option Addr) (d : Nat) (xs ws : List Int) (i q K M : Int) (B : Nat) (w : World) (h : OwnI w B (.slice (some ⟨g, 0, none⟩) xs.length c) xs) (hw : IntsAt w b ws)
    (hne : ∀ ad, b = some ad → ad.block ≠ g) (hn : 1 ≤ (xs.length : Int) ∧ (xs.length : Int) ≤ 48) (hl : (ws.length : Int) ≤ 4) (hi : 0 ≤ i ∧ i ≤ 48) (hq : ∀ x, x ∈ ws → -K ≤ q * x ∧ q * x ≤ K)
    (hK : 0 ≤ K ∧ K ≤ 1000000000) (hM : 0 ≤ M ∧ M ≤ 1000000000000) (hx : AllLe M xs) :
    Calls Try.prog 114 #[.slice (some ⟨g, 0, none⟩) xs.length c, .slice b ws.length d, .int .i64 i, .int .i64 q] w (Turned w B g xs.length c (spread xs ws i q)) := by
  have HS0 : Hid (Sp w B g c xs ws i q K M 0) := ⟨xs, h, hx.mono (by omega), rfl, rfl⟩
  have HW : Hid (∀ w', Upd [g] w w' → IntsAt w' b ws) := fun w' u => hw.kept u fun ad e => by simpa using hne ad e
  have HQ := Lib.hid hq
  have HU0 : Hid (Upd [g] w w) := (Upd.refl w).mono (by simp)
  clear h hw hne hq hx
  go_enter Try.func114, Try.ntmps114
  go_wp2
  go_loopw [15] (fun v wr => ∃ k : Nat, k ≤ ws.length ∧ v = .int .i64 k ∧ Hid (Sp wr B g c xs ws i q K M k) ∧ Hid (Upd [g] w wr)) (fun v _ => ws.length - (intOf v).toNat)
  case atStart => exact ⟨0, by omega, rfl, HS0, HU0⟩
  case round =>
    clear HS0 HU0
    obtain ⟨k, hk, rfl, HS, HU⟩ := hrel
    by_cases hlt : k < ws.length
    · obtain ⟨bb, off, x, rfl, hcx, hx⟩ := (HW.out _ HU.out).get hlt
      have hqx := HQ.out x (mem_of_get hx.out)
      obtain ⟨ys, h1, h2, h3, h4⟩ := HS.out
      have hkK : 2 * K * k ≤ 8 * K := by
        have h5 : 2 * K * (k : Int) ≤ 2 * K * 4 := Int.mul_le_mul_of_nonneg_left (by omega) (by omega)
        omega
      have hkK0 : 0 ≤ 2 * K * (k : Int) := Int.mul_nonneg (by omega) (by omega)
      obtain ⟨p1, HP1⟩ : ∃ p, Hid (pos (i - k) xs.length = p) := ⟨_, rfl⟩
      have hp1 : p1 < xs.length := by rw [← HP1.out]; exact pos_lt _ (by omega)
      obtain ⟨y1, hy1⟩ : ∃ y, ys.getD p1 0 = y := ⟨_, rfl⟩
      have hb1 := h2.get (by omega) p1
      rw [hy1] at hb1
      have hg1 := get_of_getD (by omega) hy1
      have hc1 := h1.cell hg1
      have hf1 := h1.free p1
      have hO1 := h1.set p1 (y1 + q * x) (by omega)
      have hA1 : AllLe (M + 2 * K * k + K) (ys.set p1 (y1 + q * x)) := by rw [← add_getD hy1]; exact h2.addAt (by omega) _ _ hqx
      by_cases hk0 : k = 0
      · have hd : ¬ 0 < k := by omega
        have hs : spStep xs.length i q k x ys = ys.set p1 (y1 + q * x) := by rw [spStep, if_neg hd, HP1.out, add_getD hy1]
        have HN : Hid (Sp (wr.setCell ⟨g, p1, none⟩ (.int .i64 (y1 + q * x))) B g c xs ws i q K M (k + 1)) := by
          refine ⟨_, hO1, hA1.mono ?_, by simp [h3], ?_⟩
          · have : 2 * K * ((k + 1 : Nat) : Int) = 2 * K * (k : Int) + 2 * K := by rw [Int.natCast_add, Int.mul_add]; simp
            omega
          · rw [← hs, ← spAux_cons hx.out]; exact h4
        have HU2 : Hid (Upd [g] w (wr.setCell ⟨g, p1, none⟩ (.int .i64 (y1 + q * x)))) := (HU.out).setCell _ (.inl (by simp))
        have hd2 : decide (0 < k) = false := decide_eq_false hd
        have i1 : (p1 : Int) < (xs.length : Int) := by omega
        clear h1 h2 h3 h4 hy1 hg1 hO1 hA1 hs HS hk0 hd
        go_wp2_with (go_at_call 96; refine (floorMod_p _ _ p1 _ (by omega) (by omega) HP1.out).mono ?_; rintro e w' ⟨rfl, rfl⟩)
        go_roundw
        case rel => exact ⟨k + 1, by omega, by go_num, HN, HU2⟩
        case measure => simp [intOf]; omega
      · have hd : 0 < k := by omega
        obtain ⟨p2, HP2⟩ : ∃ p, Hid (pos (i + k) xs.length = p) := ⟨_, rfl⟩
        have hp2 : p2 < xs.length := by rw [← HP2.out]; exact pos_lt _ (by omega)
        obtain ⟨y2, hy2⟩ : ∃ y, (ys.set p1 (y1 + q * x)).getD p2 0 = y := ⟨_, rfl⟩
        have hb2 := hA1.get (by omega) p2
        rw [hy2] at hb2
        have hg2 := get_of_getD (by simp; omega) hy2
        have hc2 := hO1.cell hg2
        have hf2 := hO1.free p2
        have hO2 := hO1.set p2 (y2 + q * x) (by simp; omega)
        have hs : spStep xs.length i q k x ys = (ys.set p1 (y1 + q * x)).set p2 (y2 + q * x) := by
          rw [spStep, if_pos hd, HP1.out, HP2.out, add_getD hy1, add_getD hy2]
        have HN : Hid (Sp ((wr.setCell ⟨g, p1, none⟩ (.int .i64 (y1 + q * x))).setCell ⟨g, p2, none⟩ (.int .i64 (y2 + q * x))) B g c xs ws i q K M (k + 1)) := by
          refine ⟨_, hO2, ?_, by simp [h3], ?_⟩
          · rw [← add_getD hy2]
            refine (hA1.addAt (by omega) _ _ hqx).mono ?_
            have : 2 * K * ((k + 1 : Nat) : Int) = 2 * K * (k : Int) + 2 * K := by rw [Int.natCast_add, Int.mul_add]; simp
            omega
          · rw [← hs, ← spAux_cons hx.out]; exact h4
        have HU2 : Hid (Upd [g] w ((wr.setCell ⟨g, p1, none⟩ (.int .i64 (y1 + q * x))).setCell ⟨g, p2, none⟩ (.int .i64 (y2 + q * x)))) := ((HU.out).setCell _ (.inl (by simp))).setCell _ (.inl (by simp))
        have i1 : (p1 : Int) < (xs.length : Int) := by omega
        have i2 : (p2 : Int) < (xs.length : Int) := by omega
        clear h1 h2 h3 h4 hy1 hg1 hO1 hA1 hs HS hk0 hy2 hg2 hO2
        go_wp2_with fail
        refine (floorMod_p _ _ p1 _ (by omega) (by omega) HP1.out).mono ?_
        rintro e w' ⟨rfl, rfl⟩
        go_wp2_with fail
        refine (floorMod_p _ _ p2 _ (by omega) (by omega) HP2.out).mono ?_
        rintro e w' ⟨rfl, rfl⟩
        go_wp2_with fail
        go_roundw
        case rel => exact ⟨k + 1, by omega, by go_num, HN, HU2⟩
        case measure => simp [intOf]; omega
    · obtain rfl : k = ws.length := by omega
      go_wp2
      go_end0
      obtain ⟨ys, h1, h2, h3, h4⟩ := HS.out
      refine ⟨rfl, ?_, HU.out⟩
      rw [← h4, List.drop_length]; exact h1
theorem spreadTurn_n (g c n : Nat) (b : Option Addr) (d : Nat) (xs ws : List Int) (i q K M : Int) (B : Nat) (w : World) (e : xs.length = n) (h : OwnI w B (.slice (some ⟨g, 0, none⟩) n c) xs) (hw : IntsAt w b ws)
    (hne : ∀ ad, b = some ad → ad.block ≠ g) (hn : 1 ≤ (n : Int) ∧ (n : Int) ≤ 48) (hl : (ws.length : Int) ≤ 4) (hi : 0 ≤ i ∧ i ≤ 48) (hq : ∀ x, x ∈ ws → -K ≤ q * x ∧ q * x ≤ K)
    (hK : 0 ≤ K ∧ K ≤ 1000000000) (hM : 0 ≤ M ∧ M ≤ 1000000000000) (hx : AllLe M xs) :
    Calls Try.prog 114 #[.slice (some ⟨g, 0, none⟩) n c, .slice b ws.length d, .int .i64 i, .int .i64 q] w (Turned w B g n c (spread xs ws i q)) := by
  subst e; exact spreadTurn_c g c b d xs ws i q K M B w h hw hne hn hl hi hq hK hM hx
theorem turnAux_cons {ws ts : List Int} {k : Nat} {t : Int} (h : ts[k]? = some t) (l : List Int) : turnAux ws k (ts.drop k) l = turnAux ws (k + 1) (ts.drop (k + 1)) (spread l ws k t) := by
  rw [List.drop_eq_getElem_cons (get_lt h), (List.getElem?_eq_some_iff.1 h).2]; rfl
theorem mul_bd {a b A B : Int} (h1 : -A ≤ a ∧ a ≤ A) (h2 : -B ≤ b ∧ b ≤ B) : -(A * B) ≤ a * b ∧ a * b ≤ A * B := by
  have hA : 0 ≤ A := by omega
  have hB : 0 ≤ B := by omega
  have e1 : a * b = -((-a) * b) := by rw [Int.neg_mul]; omega
  have e2 : a * b = -(a * (-b)) := by rw [Int.mul_neg]; omega
  have e3 : a * b = (-a) * (-b) := by rw [Int.neg_mul_neg]
  by_cases ha : 0 ≤ a <;> by_cases hb : 0 ≤ b
  · have := Int.mul_nonneg ha hb; have := Int.mul_le_mul h1.2 h2.2 hb hA; omega
  · have h3 := Int.mul_nonneg ha (show 0 ≤ -b by omega); have h4 := Int.mul_le_mul h1.2 (show -b ≤ B by omega) (by omega) hA; omega
  · have h3 := Int.mul_nonneg (show 0 ≤ -a by omega) hb; have h4 := Int.mul_le_mul (show -a ≤ A by omega) h2.2 hb hA; omega
  · have h3 := Int.mul_nonneg (show 0 ≤ -a by omega) (show 0 ≤ -b by omega); have h4 := Int.mul_le_mul (show -a ≤ A by omega) (show -b ≤ B by omega) (by omega) hA; omega
/-- What stands in the list after some of the nipples. -/
def Tn (w : World) (B g c : Nat) (xs ws ts : List Int) (M D : Int) (k : Nat) : Prop :=
  ∃ ys, OwnI w B (.slice (some ⟨g, 0, none⟩) xs.length c) ys ∧ AllLe (M + D * k) ys ∧ ys.length = xs.length ∧ turnAux ws k (ts.drop k) ys = turnF xs ws ts
set_option maxRecDepth 20000 in
set_option maxHeartbeats 2000000 in
theorem l07Turn_c (b off c : Nat) (a2 a3 : Option Addr) (c2 c3 : Nat) (xs ws ts : List Int) (w : World) (h : IntsAt w (some ⟨b, off, none⟩) xs) (h2 : IntsAt w a2 ws) (h3 : IntsAt w a3 ts)
    (hn : 1 ≤ (xs.length : Int) ∧ (xs.length : Int) ≤ 48) (hl : (ws.length : Int) ≤ 4) (hts : ts.length = xs.length) (hx : AllLe 3000 xs) (hw : AllLe 200 ws) (ht : AllLe 100 ts) :
    Calls Try.prog 116 #[.slice (some ⟨b, off, none⟩) xs.length c, .slice a2 ws.length c2, .slice a3 ts.length c3] w (NewI w (turnF xs ws ts)) := by
  have H := Lib.hid h
  have HWS : Hid (∀ w', Upd [] w w' → IntsAt w' a2 ws) := fun w' u => h2.kept0 u
  have HTS : Hid (∀ w', Upd [] w w' → IntsAt w' a3 ts) := fun w' u => h3.kept0 u
  have HL := Lib.hid hts
  have HW := Lib.hid hw
  have HT := Lib.hid ht
  have hl2 : (ts.length : Int) ≤ xs.length ∧ (xs.length : Int) ≤ ts.length := by omega
  clear h h2 h3 hts hw ht
  go_enter Try.func116, Try.ntmps116
  go_wp2_with fail
  refine (l01Own_c _ _ _ _ H.out (by omega)).mono ?_
  rintro e w1 ⟨v, rfl, h1, h2⟩
  obtain ⟨g, cap, rfl, hg1, hg2⟩ := h1.row (by omega)
  have HU0 := Lib.hid h2
  have HT0 : Hid (Tn w1 w.heap.size g cap xs ws ts 3000 160000 0) := ⟨xs, h1, hx.mono (by omega), rfl, rfl⟩
  clear h1 h2 hx
  go_wp2_with fail
  go_loopw [9] (fun v wr => ∃ k : Nat, k ≤ xs.length ∧ v = .int .i64 k ∧ Hid (Tn wr w.heap.size g cap xs ws ts 3000 160000 k) ∧ Hid (Upd [] w wr)) (fun v _ => xs.length - (intOf v).toNat)
  case atStart => exact ⟨0, by omega, rfl, HT0, HU0⟩
  case round =>
    clear HT0 HU0
    obtain ⟨k, hk, rfl, HTn, HU⟩ := hrel
    by_cases hlt : k < xs.length
    · obtain ⟨wo, ewo⟩ : ∃ wo : World, wo = wr := ⟨_, rfl⟩
      subst ewo
      obtain ⟨zs, z1, z2, z3, z4⟩ := HTn.out
      obtain ⟨tb, toff, t, rfl, -, htk⟩ := (HTS.out _ HU.out).get (k := k) (by have := HL.out; omega)
      have ht1 := HT.out t (mem_of_get htk.out)
      have HQ : Hid (∀ x, x ∈ ws → -20000 ≤ t * x ∧ t * x ≤ 20000) := fun x hx => by have := mul_bd ht1 (HW.out x hx); omega
      have hkM : 0 ≤ 160000 * (k : Int) ∧ 160000 * (k : Int) ≤ 7680000 := by omega
      have HS0 : Hid (Sp wo w.heap.size g cap zs ws k t 20000 (3000 + 160000 * k) 0 ∧ zs.length = xs.length) := ⟨⟨zs, by rw [z3]; exact z1, z2.mono (by omega), rfl, rfl⟩, z3⟩
      have HZ := Lib.hid z4
      clear z1 z2 z3 z4 HTn
      go_wp2
      go_loopw [10] (fun v wr => ∃ j : Nat, j ≤ ws.length ∧ v = .int .i64 j ∧ Hid (Sp wr w.heap.size g cap zs ws k t 20000 (3000 + 160000 * k) j ∧ zs.length = xs.length) ∧ Hid (Upd [] w wr)) (fun v _ => ws.length - (intOf v).toNat)
      case atStart => exact ⟨0, by omega, rfl, HS0, HU⟩
      case round =>
        clear HS0 HU
        obtain ⟨j, hj, rfl, HS, HU⟩ := hrel
        by_cases hjl : j < ws.length
        · obtain ⟨bb, off2, x, rfl, hcx, hx⟩ := (HWS.out _ HU.out).get hjl
          obtain ⟨tb', toff', t', e', hct, htk'⟩ := (HTS.out _ HU.out).get (k := k) (by have := HL.out; omega)
          cases e'
          obtain rfl : t = t' := by have := htk.out; rw [htk'.out] at this; simpa using this.symm
          have hqx := HQ.out x (mem_of_get hx.out)
          obtain ⟨⟨ys, h1, h2, h3, h4⟩, hzl⟩ := HS.out
          rw [hzl] at h1 h3
          have hkK : 2 * 20000 * (j : Int) ≤ 160000 := by omega
          obtain ⟨p1, HP1⟩ : ∃ p, Hid (pos ((k : Int) - j) xs.length = p) := ⟨_, rfl⟩
          have hp1 : p1 < xs.length := by rw [← HP1.out]; exact pos_lt _ (by omega)
          obtain ⟨y1, hy1⟩ : ∃ y, ys.getD p1 0 = y := ⟨_, rfl⟩
          have hb1 := h2.get (by omega) p1
          rw [hy1] at hb1
          have hg1' := get_of_getD (by omega) hy1
          have hc1 := h1.cell hg1'
          have i1 : (p1 : Int) < (xs.length : Int) := by omega
          have i2 : (k : Int) < (ts.length : Int) := by omega
          have i3 : (j : Int) < (ws.length : Int) := by omega
          have HH := Lib.hid (show _ ∧ _ ∧ _ ∧ _ from ⟨h1, h2, h3, h4⟩)
          have HY1 := Lib.hid hy1
          have HZL := Lib.hid hzl
          clear h1 h2 h3 h4 hy1 hg1' hzl HS
          have HB1 : Hid (-9223372036854775807 ≤ (k : Int) - j ∧ (k : Int) - j ≤ 9223372036854775807) := by constructor <;> omega
          have HB2 : Hid (1 ≤ (xs.length : Int) ∧ (xs.length : Int) ≤ 4611686018427387903) := by constructor <;> omega
          have hw1 : IntKind.i64.wrap ((k : Int) - j) = (k : Int) - j := IntWalk.i64_in _ (by omega)
          have hw2 : IntKind.i64.wrap (t * x) = t * x := IntWalk.i64_in _ (by omega)
          have hw3 : IntKind.i64.wrap (y1 + t * x) = y1 + t * x := IntWalk.i64_in _ (by omega)
          go_wp2
          refine wp_region_still_tail 25 (by kernel_rfl) (by kernel_rfl) ?_
          simp only [List.take_succ_cons, List.take_zero, List.drop_succ_cons, List.drop_zero]
          repeat (first | still_step | still_call (stillC (l01Mod_p _ _ p1 _ HB1.out HB2.out HP1.out)))
          refine wpStill_nil ?_
          clear hw1 hw2 hw3 hc1 hct hcx
          change wpList _ _ _ _ _ wr.drew
          have HU2 : Hid (Upd [] w wr.drew) := (HU.out).drew
          have HH2 : Hid (OwnI wr.drew w.heap.size (.slice (some ⟨g, 0, none⟩) xs.length cap) ys) := HH.out.1.kept0 (Upd.refl wr).drew
          generalize wr.drew = w2 at HU2 HH2 ⊢
          obtain ⟨-, h2, h3, h4⟩ := HH.out
          have hc1 := HH2.out.cell (get_of_getD (by omega) HY1.out)
          have hf1 := HH2.out.free p1
          have hO1 := HH2.out.set p1 (y1 + t * x) (by omega)
          have hA1 : AllLe (3000 + 160000 * (k : Int) + 2 * 20000 * j + 20000) (ys.set p1 (y1 + t * x)) := by rw [← add_getD HY1.out]; exact h2.addAt (by omega) _ _ hqx
          have hu3 : Upd [] w (w2.setCell ⟨g, p1, none⟩ (.int .i64 (y1 + t * x))) := (HU2.out).setCell _ (.inr hg1)
          by_cases hj0 : j = 0
          · have hd : ¬ 0 < j := by omega
            have hs : spStep xs.length k t j x ys = ys.set p1 (y1 + t * x) := by rw [spStep, if_neg hd, HP1.out, add_getD HY1.out]
            have HN : Hid (Sp (w2.setCell ⟨g, p1, none⟩ (.int .i64 (y1 + t * x))) w.heap.size g cap zs ws k t 20000 (3000 + 160000 * k) (j + 1) ∧ zs.length = xs.length) := by
              refine ⟨⟨_, by rw [HZL.out]; exact hO1, hA1.mono (by omega), by simp [h3, HZL.out], ?_⟩, HZL.out⟩
              rw [HZL.out, ← hs, ← spAux_cons hx.out, ← HZL.out]; exact h4
            have HU3 := Lib.hid hu3
            have hd2 : decide (0 < j) = false := decide_eq_false hd
            clear h2 h3 h4 hO1 hA1 hu3 hs hd hj0
            go_wp2
            go_roundw
            case rel => exact ⟨j + 1, by omega, by go_num, HN, HU3⟩
            case measure => simp [intOf]; omega
          · have hd : 0 < j := by omega
            obtain ⟨p2, HP2⟩ : ∃ p, Hid (pos ((k : Int) + j) xs.length = p) := ⟨_, rfl⟩
            have hp2 : p2 < xs.length := by rw [← HP2.out]; exact pos_lt _ (by omega)
            obtain ⟨y2, hy2⟩ : ∃ y, (ys.set p1 (y1 + t * x)).getD p2 0 = y := ⟨_, rfl⟩
            have hb2 := hA1.get (by omega) p2
            rw [hy2] at hb2
            have hs : spStep xs.length k t j x ys = (ys.set p1 (y1 + t * x)).set p2 (y2 + t * x) := by
              rw [spStep, if_pos hd, HP1.out, HP2.out, add_getD HY1.out, add_getD hy2]
            have HO3 : Hid (OwnI (w2.setCell ⟨g, p1, none⟩ (.int .i64 (y1 + t * x))) w.heap.size (.slice (some ⟨g, 0, none⟩) xs.length cap) (ys.set p1 (y1 + t * x)) ∧ Upd [] w (w2.setCell ⟨g, p1, none⟩ (.int .i64 (y1 + t * x)))) := ⟨hO1, hu3⟩
            have HA1 := Lib.hid hA1
            have HY2 := Lib.hid hy2
            have HS2 := Lib.hid hs
            have HH3 := Lib.hid (show _ ∧ _ from ⟨h3, h4⟩)
            clear h2 h3 h4 hO1 hA1 hu3 hs hy2 hj0
            go_wp2
            clear hc1 hf1
            generalize w2.setCell ⟨g, p1, none⟩ (.int .i64 (y1 + t * x)) = w3 at HO3 ⊢
            obtain ⟨bb', off2', x', e', hcx, hx'⟩ := (HWS.out _ HO3.out.2).get hjl
            cases e'
            obtain rfl : x = x' := by have := hx.out; rw [hx'.out] at this; simpa using this.symm
            obtain ⟨tb', toff', t', e', hct, htk''⟩ := (HTS.out _ HO3.out.2).get (k := k) (by have := HL.out; omega)
            cases e'
            obtain rfl : t = t' := by have := htk.out; rw [htk''.out] at this; simpa using this.symm
            have hc2 := HO3.out.1.cell (get_of_getD (by simp; have := HH3.out.1; omega) HY2.out)
            have i4 : (p2 : Int) < (xs.length : Int) := by omega
            have HB3 : Hid (-9223372036854775807 ≤ (k : Int) + j ∧ (k : Int) + j ≤ 9223372036854775807) := by constructor <;> omega
            have hw1 : IntKind.i64.wrap ((k : Int) + j) = (k : Int) + j := IntWalk.i64_in _ (by omega)
            have hw2 : IntKind.i64.wrap (t * x) = t * x := IntWalk.i64_in _ (by omega)
            have hw3 : IntKind.i64.wrap (y2 + t * x) = y2 + t * x := IntWalk.i64_in _ (by omega)
            refine wp_region_still_tail 25 (by kernel_rfl) (by kernel_rfl) ?_
            simp only [List.take_succ_cons, List.take_zero, List.drop_succ_cons, List.drop_zero]
            repeat (first | still_step | still_call (stillC (l01Mod_p _ _ p2 _ HB3.out HB2.out HP2.out)))
            refine wpStill_nil ?_
            clear hw1 hw2 hw3 hc2 hct hcx
            change wpList _ _ _ _ _ w3.drew
            have HU4 : Hid (Upd [] w w3.drew) := (HO3.out.2).drew
            have HH4 : Hid (OwnI w3.drew w.heap.size (.slice (some ⟨g, 0, none⟩) xs.length cap) (ys.set p1 (y1 + t * x))) := HO3.out.1.kept0 (Upd.refl w3).drew
            generalize w3.drew = w4 at HU4 HH4 ⊢
            have hc2 := HH4.out.cell (get_of_getD (by simp; have := HH3.out.1; omega) HY2.out)
            have hf2 := HH4.out.free p2
            have HN : Hid (Sp (w4.setCell ⟨g, p2, none⟩ (.int .i64 (y2 + t * x))) w.heap.size g cap zs ws k t 20000 (3000 + 160000 * k) (j + 1) ∧ zs.length = xs.length) := by
              obtain ⟨h3, h4⟩ := HH3.out
              refine ⟨⟨_, by rw [HZL.out]; exact HH4.out.set p2 (y2 + t * x) (by simp; omega), ?_, by simp [h3, HZL.out], ?_⟩, HZL.out⟩
              · rw [← add_getD HY2.out]
                exact (HA1.out.addAt (by omega) _ _ hqx).mono (by omega)
              · rw [HZL.out, ← HS2.out, ← spAux_cons hx.out, ← HZL.out]; exact h4
            have HU5 : Hid (Upd [] w (w4.setCell ⟨g, p2, none⟩ (.int .i64 (y2 + t * x)))) := (HU4.out).setCell _ (.inr hg1)
            go_wp2
            go_roundw
            case rel => exact ⟨j + 1, by omega, by go_num, HN, HU5⟩
            case measure => simp [intOf]; omega
        · obtain rfl : j = ws.length := by omega
          have HN : Hid (Tn wr w.heap.size g cap xs ws ts 3000 160000 (k + 1)) := by
            obtain ⟨⟨ys, h1, h2, h3, h4⟩, h5⟩ := HS.out
            rw [h5] at h1 h3
            refine ⟨ys, h1, h2.mono (by omega), h3, ?_⟩
            rw [List.drop_length] at h4
            rw [show ys = spread zs ws k t from h4, ← turnAux_cons htk.out]; exact HZ.out
          go_wp2
          go_roundw
          case rel => exact ⟨k + 1, by omega, by go_num, HN, HU⟩
          case measure => simp [intOf]; omega
    · obtain rfl : k = xs.length := by omega
      go_wp2
      go_ret
      obtain ⟨ys, h1, h2, h3, h4⟩ := HTn.out
      refine ⟨_, rfl, ?_, HU.out⟩
      rw [List.drop_of_length_le (by have := HL.out; omega)] at h4
      rw [show turnF xs ws ts = ys from h4.symm]
      exact h1
end Go.Proofs.Ytdjdddepplaagaa
