/- The law of the steps between gears. -/
import Derived.Test.YtjnkckpebfafjaaRowL
import Derived.Test.YtjnkckpebfafjaaGearE
import Derived.Test.YtjnkckpebfafjaaGearC
import Derived.Test.YtjnkckpebfafjaaDrawT5
import Derived.Test.YtjnkckpebfafjaaLaws9D
namespace Go.Proofs.Ytjnkckpebfafjaa
open Go.RowKit
set_option linter.unusedVariables false
set_option linter.unusedSimpArgs false

/-- How many are 0. -/
def zc (s : List Int) : Nat := (s.filter (· == 0)).length
theorem zc_app (a : List Int) (x : Int) : zc (a ++ [x]) = zc a + if x = 0 then 1 else 0 := by
  unfold zc; rw [List.filter_append, List.length_append]; congr 1
  by_cases h : x = 0 <;> simp [h]
theorem zc_step {s : List Int} {k : Nat} {x : Int} (h : s[k]? = some x) : zc (s.take (k + 1)) = zc (s.take k) + if x = 0 then 1 else 0 := by
  rw [take_step h, zc_app]
theorem zc_le (s : List Int) : zc s ≤ s.length := List.length_filter_le _ _
theorem step_ok {fs rs : List Int} {P : List (Nat × Nat)} (ht : TeethOk fs) (hu : TeethOk rs) (hin : InG fs rs P) (hs : SrtG fs rs P) (m : Nat) (hm : m + 1 ≤ P.length) : (∀ x, x ∈ stN fs rs P m → 0 ≤ x) ∧ (eqN fs rs P m).length ≤ zc (stN fs rs P m) := by
  induction m with
  | zero => exact ⟨fun x hx => by simp [stN] at hx, by simp [eqN]⟩
  | succ m ih =>
    obtain ⟨h1, h2⟩ := ih (by omega)
    have ha := hin _ (pAt_mem (P := P) (k := m) (by omega))
    have hb := hin _ (pAt_mem (P := P) (k := m + 1) (by omega))
    have hc : cmpG fs rs (pAt P m) (pAt P (m + 1)) ≤ 0 := by
      have e1 := pAt_get (P := P) (k := m) (by omega)
      have e2 := pAt_get (P := P) (k := m + 1) (by omega)
      rw [List.getElem?_eq_getElem (by omega)] at e1 e2
      simp only [Option.some.injEq] at e1 e2
      have := (List.pairwise_iff_getElem.1 hs) m (m + 1) (by omega) (by omega) (by omega)
      rw [e1, e2] at this; exact this
    have hn := cmpG_neg fs rs (pAt P (m + 1)) (pAt P m)
    have hbd := cmpG_bd ht hu ha hb
    have hst : stepF fs rs (pAt P m) (pAt P (m + 1)) = (1000 * cmpG fs rs (pAt P (m + 1)) (pAt P m)) / (tooth fs (pAt P m).1 * tooth rs (pAt P (m + 1)).2) := by
      unfold stepF; exact Int.tdiv_eq_ediv_of_nonneg (by omega)
    have hnn : 0 ≤ stepF fs rs (pAt P m) (pAt P (m + 1)) := by rw [hst]; exact Int.ediv_nonneg (by omega) (by omega)
    refine ⟨fun x hx => ?_, ?_⟩
    · rw [stN] at hx
      rcases List.mem_append.1 hx with hx | hx
      · exact h1 x hx
      · rw [List.mem_singleton.1 hx]; exact hnn
    · rw [stN, eqN, zc_app]
      split
      · rename_i h0
        have : stepF fs rs (pAt P m) (pAt P (m + 1)) = 0 := by rw [hst, hn, h0]; simp
        rw [if_pos this]; simp; omega
      · split <;> omega
theorem inc_last {xs : List Int} (h : Inc xs xs.length) (k : Nat) (hk : k < xs.length) : tooth xs 0 ≤ tooth xs k := by
  induction k with
  | zero => exact Int.le_refl _
  | succ k ih =>
    have h1 := h k hk
    have h2 := ih (by omega)
    unfold tooth at *; omega
/-- What the law wants of the steps. -/
structure StepsOk (fs rs : List Int) (S : List Int) (El : Nat) (r : Int) : Prop where
  nn : ∀ x, x ∈ S → 0 ≤ x
  eqs : El ≤ zc S
  len : (S.length : Int) = (fs.length : Int) * (rs.length : Int) - 1
  rg : 100 ≤ r
  short : S.length ≤ 36
theorem steps_ok {fs rs : List Int} {n : Int} (h : rgE fs rs n = 0) : StepsOk fs rs (stL fs rs n) (eqL fs rs n).length (rgV fs rs n) := by
  unfold rgE at h
  cases q : trB fs rs n <;> simp [q] at h
  obtain ⟨o1, o2, o3, o4⟩ := ord_facts q
  obtain ⟨⟨t1, t2⟩, ⟨t3, t4⟩, t5⟩ := trB_t q
  have e1 : stL fs rs n = stN fs rs (orderF fs rs) ((orderF fs rs).length - 1) := by simp [stL, q]
  have e2 : eqL fs rs n = eqN fs rs (orderF fs rs) ((orderF fs rs).length - 1) := by simp [eqL, q]
  have e3 : rgV fs rs n = (100 * tooth fs (fs.length - 1) * tooth rs (rs.length - 1)).tdiv (tooth fs 0 * tooth rs 0) := by simp [rgV, q]
  obtain ⟨s1, s2⟩ := step_ok t2 t4 o3 o4 ((orderF fs rs).length - 1) (by omega)
  rw [e1, e2, e3]
  have hq := q
  simp only [trB, Bool.and_eq_true] at hq
  have i1 := inc_last (teethB_is hq.1).2.2 (fs.length - 1) (by omega)
  have i2 := inc_last (teethB_is hq.2.1).2.2 (rs.length - 1) (by omega)
  have b1 := t2.at (i := 0) (by omega)
  have b2 := t4.at (i := 0) (by omega)
  have hpos : 1 ≤ tooth fs 0 * tooth rs 0 := by
    have := Int.mul_le_mul b1.1 b2.1 (by omega) (by omega); omega
  have hle : tooth fs 0 * tooth rs 0 ≤ tooth fs (fs.length - 1) * tooth rs (rs.length - 1) := Int.mul_le_mul i1 i2 (by omega) (by omega)
  refine ⟨s1, s2, ?_, ?_, by rw [stN_length]; omega⟩
  · rw [stN_length, orderF_length] at *
    have : 1 ≤ fs.length * rs.length := o1
    rw [← Int.natCast_mul]; omega
  · rw [Int.mul_assoc, Int.tdiv_eq_ediv_of_nonneg (by omega)]
    exact Int.le_ediv_of_mul_le (by omega) (by omega)
theorem eqL_le (fs rs : List Int) (n : Int) : (eqL fs rs n).length ≤ 36 := by
  unfold eqL
  cases q : trB fs rs n
  · simp
  · have := eqN_le fs rs (orderF fs rs) ((orderF fs rs).length - 1)
    have := (ord_facts q).2.1
    simp; omega
theorem stL_le (fs rs : List Int) (n : Int) : (stL fs rs n).length ≤ 36 := by
  unfold stL
  cases q : trB fs rs n
  · simp
  · have := (ord_facts q).2.1
    simp [stN_length]; omega
set_option maxRecDepth 20000 in
set_option maxHeartbeats 6400000 in
theorem FnGearSteps_walk (a : Option Addr) (c : Nat) (bs : List Int) (w : World) (h : U8At w a bs) : Calls Try.prog 5 #[.slice a bs.length c] w (RetT w) := by
  have HC := Lib.hid h
  clear h
  by_cases hl : bs.length ≤ 4096
  case neg =>
    go_enter Try.func5, Try.ntmps5
    go_wp2_with (go_at_call 6; refine (big_x _ _ _ _ hl).mono ?_; rintro e w' ⟨rfl, rfl⟩)
    go_ret
    exact ⟨rfl, Upd.refl _⟩
  go_enter Try.func5, Try.ntmps5
  go_wp2_with (go_at_call 6; refine (big_y _ _ _ _ hl).mono ?_; rintro e w' ⟨rfl, rfl⟩)
  refine (DrawEqualGears_c a c bs _ HC.out hl).mono ?_
  rintro e wn ⟨p1, c1, p2, c2, fs, rs, n, rfl, i1, i2, ⟨lf, lr⟩, hu⟩
  have U := Lib.hid hu
  clear hu HC hl
  have bX := Box.new wn (.slice p1 fs.length c1) (.slice p2 rs.length c2) (.int .i64 n) 26
  have uX : Upd [] wn (wn.alloc (.cells #[.slice p1 fs.length c1, .slice p2 rs.length c2, .int .i64 n] 26)) := (Upd.refl wn).alloc _
  have BX : Hid (∀ w', Upd [] (wn.alloc (.cells #[.slice p1 fs.length c1, .slice p2 rs.length c2, .int .i64 n] 26)) w' → Box w' wn.heap.size (.slice p1 fs.length c1) (.slice p2 rs.length c2) (.int .i64 n) 26 ∧ IntsAt w' p1 fs ∧ IntsAt w' p2 rs) := fun w' u => ⟨bX.kept u (by simp), (i1.kept0 uX).kept0 u, (i2.kept0 uX).kept0 u⟩
  have V : Hid (Upd [] (wn.alloc (.cells #[.slice p1 fs.length c1, .slice p2 rs.length c2, .int .i64 n] 26)) (wn.alloc (.cells #[.slice p1 fs.length c1, .slice p2 rs.length c2, .int .i64 n] 26))) := Upd.refl _
  replace U := Lib.hid (U.out.then0 uX)
  clear bX uX i1 i2
  obtain ⟨hb0, hb1, hb2⟩ := (BX.out _ V.out).1.cells
  go_wp2_with fail
  clear hb0 hb1 hb2
  generalize wn.heap.size = X_BX at BX ⊢
  generalize wn.alloc (.cells #[.slice p1 fs.length c1, .slice p2 rs.length c2, .int .i64 n] 26) = w_BX at BX V U ⊢
  refine ((iEqualGears_c p1 p2 c1 c2 fs rs n _ (BX.out _ V.out).2.1 (BX.out _ V.out).2.2 (by omega) (by omega)).mono fun _ _ h => NewRC.read h).mono ?_
  rintro e w5 ⟨po, co, rfl, hrow, hu⟩
  replace V := Lib.hid (V.out.then0 hu)
  have HO := Lib.hid hrow
  clear hu hrow
  obtain ⟨hb0, hb1, hb2⟩ := (BX.out _ V.out).1.cells
  go_wp2_with fail
  clear hb0 hb1 hb2
  refine (sEqualGears_c p1 p2 c1 c2 fs rs n _ (BX.out _ V.out).2.1 (BX.out _ V.out).2.2 (by omega) (by omega)).mono ?_
  rintro e w6 ⟨pq, cq, rfl, hrow, hu⟩
  replace V := Lib.hid (V.out.then0 hu)
  replace HO := Lib.hid (HO.out.kept0 hu)
  have HO2 := Lib.hid hrow
  clear hu hrow
  have HG := Lib.hid (@steps_ok fs rs n)
  have hel := Lib.hid (eqL_le fs rs n)
  have hsl := Lib.hid (stL_le fs rs n)
  rw [rowsOf_len]
  obtain ⟨Q, hQ⟩ : ∃ T, eqL fs rs n = T := ⟨_, rfl⟩
  rw [hQ] at HG HO HO2 hel ⊢
  clear hQ
  obtain ⟨hb0, hb1, hb2⟩ := (BX.out _ V.out).1.cells
  go_wp2_with fail
  clear hb0 hb1 hb2
  refine (iStepsOf_c p1 p2 c1 c2 fs rs n _ (BX.out _ V.out).2.1 (BX.out _ V.out).2.2 (by omega) (by omega)).mono ?_
  rintro e w7 ⟨v, rfl, o, hu⟩
  obtain ⟨ps, ds, rfl, ir, -⟩ := o.intsAt
  have HS := Lib.hid ir
  replace V := Lib.hid (V.out.then0 hu)
  replace HO := Lib.hid (HO.out.kept0 hu)
  replace HO2 := Lib.hid (HO2.out.kept0 hu)
  clear o ir hu
  obtain ⟨hb0, hb1, hb2⟩ := (BX.out _ V.out).1.cells
  go_wp2_with fail
  clear hb0 hb1 hb2
  refine (sStepsOf_c p1 p2 c1 c2 fs rs n _ (BX.out _ V.out).2.1 (BX.out _ V.out).2.2 (by omega) (by omega)).mono ?_
  rintro e w8 ⟨v, rfl, o, hu⟩
  obtain ⟨pt, dt, rfl, ir, -⟩ := o.intsAt
  have HS2 := Lib.hid ir
  replace V := Lib.hid (V.out.then0 hu)
  replace HS := Lib.hid (HS.out.kept0 hu)
  replace HO := Lib.hid (HO.out.kept0 hu)
  replace HO2 := Lib.hid (HO2.out.kept0 hu)
  clear o ir hu
  obtain ⟨S, hS⟩ : ∃ T, stL fs rs n = T := ⟨_, rfl⟩
  rw [hS] at HG HS HS2 hsl ⊢
  clear hS
  obtain ⟨hb0, hb1, hb2⟩ := (BX.out _ V.out).1.cells
  go_wp2_with fail
  clear hb0 hb1 hb2
  refine (iRangeOf_c p1 p2 c1 c2 fs rs n _ (BX.out _ V.out).2.1 (BX.out _ V.out).2.2 (by omega) (by omega)).mono ?_
  rintro e w9 ⟨rfl, hu⟩
  replace V := Lib.hid (V.out.then0 hu)
  replace HS := Lib.hid (HS.out.kept0 hu)
  replace HS2 := Lib.hid (HS2.out.kept0 hu)
  replace HO := Lib.hid (HO.out.kept0 hu)
  replace HO2 := Lib.hid (HO2.out.kept0 hu)
  clear hu
  obtain ⟨hb0, hb1, hb2⟩ := (BX.out _ V.out).1.cells
  go_wp2_with fail
  clear hb0 hb1 hb2
  refine (sRangeOf_c p1 p2 c1 c2 fs rs n _ (BX.out _ V.out).2.1 (BX.out _ V.out).2.2 (by omega) (by omega)).mono ?_
  rintro e w10 ⟨rfl, hu⟩
  replace V := Lib.hid (V.out.then0 hu)
  replace HS := Lib.hid (HS.out.kept0 hu)
  replace HS2 := Lib.hid (HS2.out.kept0 hu)
  replace HO := Lib.hid (HO.out.kept0 hu)
  replace HO2 := Lib.hid (HO2.out.kept0 hu)
  clear hu
  obtain ⟨G, hG⟩ : ∃ T, rgV fs rs n = T := ⟨_, rfl⟩
  obtain ⟨E, hE⟩ : ∃ T, rgE fs rs n = T := ⟨_, rfl⟩
  rw [hG, hE] at HG ⊢
  clear hG hE
  go_wp2_with fail
  refine (likeRows_n po pq co cq Q.length (rowsOf Q) _ (rowsOf_len Q) HO.out HO2.out (by have := hel.out; omega) rowsOf_row).mono ?_
  rintro e w11 ⟨rfl, hu⟩
  replace V := Lib.hid (V.out.then0 hu)
  replace HS := Lib.hid (HS.out.kept0 hu)
  replace HS2 := Lib.hid (HS2.out.kept0 hu)
  clear hu HO HO2
  go_wp2_with fail
  refine (likeInts_c _ _ _ _ S _ HS.out HS2.out (by have := hsl.out; omega)).mono ?_
  rintro e w12 ⟨rfl, hu⟩
  replace V := Lib.hid (V.out.then0 hu)
  have HSS : Hid (∀ w', Upd [] w12 w' → IntsAt w' ps S) := fun w' u => (HS.out.kept0 hu).kept0 u
  replace BX := Lib.hid (fun w' u => BX.out w' (V.out.then0 u))
  replace U := Lib.hid (U.out.then0 V.out)
  clear hu HS HS2 V
  have V : Hid (Upd [] w12 w12) := Upd.refl _
  by_cases e0 : E = 0
  case neg =>
    clear HG BX HSS
    go_wp2_with fail
    go_ret
    exact ⟨rfl, U.out.then0 V.out⟩
  case pos =>
    subst e0
    have HGG := Lib.hid (HG.out rfl)
    clear HG
    have h36 := HGG.out.short
    go_wp2_with fail
    go_loopw [16, 17] (fun z i wr => ∃ (k Z : Nat), k ≤ S.length ∧ i = .int .i64 k ∧ z = .int .i64 Z ∧ Hid (zc (S.take k) = Z) ∧ Hid (Upd [] w12 wr)) (fun _ i _ => S.length - (intOf i).toNat)
    case atStart => exact ⟨0, 0, by omega, rfl, rfl, rfl, V⟩
    case round =>
      clear V
      obtain ⟨k, Z, hk, rfl, rfl, HZ, V⟩ := hrel
      have hZk : Z ≤ 36 := by have h1 := zc_le (S.take k); rw [HZ.out] at h1; simp at h1; omega
      by_cases hlt : k < S.length
      · obtain ⟨b1, o1, x, rfl, hcx, hx⟩ := (HSS.out _ V.out).get hlt
        have hxn := HGG.out.nn x (mem_of_get hx.out)
        have hzs := zc_step hx.out
        by_cases hx0 : x = 0
        · subst hx0
          have HZ2 : Hid (zc (S.take (k + 1)) = Z + 1) := by show _ = _; rw [hzs, HZ.out]; simp
          clear hx hzs
          go_wp2_with fail
          go_roundw
          case rel => exact ⟨k + 1, Z + 1, by omega, by go_num, by go_num, HZ2, V⟩
          case measure => simp [intOf]; omega
        · have HZ2 : Hid (zc (S.take (k + 1)) = Z) := by show _ = _; rw [hzs, HZ.out, if_neg hx0]; rfl
          have hb : (x == 0) = false := beq_eq_false_iff_ne.2 hx0
          clear hx hzs
          go_wp2_with fail
          go_roundw
          case rel => exact ⟨k + 1, Z, by omega, by go_num, rfl, HZ2, V⟩
          case measure => simp [intOf]; omega
      · obtain rfl : k = S.length := by omega
        have hQZ : (Q.length : Int) ≤ (Z : Int) := by have h1 := HZ.out; rw [List.take_length] at h1; have := HGG.out.eqs; omega
        have hb36 := mul_box (a := (fs.length : Int)) (b := (rs.length : Int)) (A := 3) (B := 10) (by omega) (by omega)
        have hw1 : IntKind.i64.wrap ((fs.length : Int) * (rs.length : Int)) = (fs.length : Int) * (rs.length : Int) := IntWalk.i64_in _ (by omega)
        have hw2 : IntKind.i64.wrap ((fs.length : Int) * (rs.length : Int) - 1) = (fs.length : Int) * (rs.length : Int) - 1 := IntWalk.i64_in _ (by omega)
        have hpl : ((S.length : Int) == (fs.length : Int) * (rs.length : Int) - 1) = true := by rw [beq_iff_eq, HGG.out.len]
        have hG := HGG.out.rg
        obtain ⟨hb0, hb1, hb2⟩ := (BX.out _ V.out).1.cells
        clear HZ HGG hb36
        go_wp2_with fail
        go_ret
        exact ⟨rfl, U.out.then0 V.out⟩
end Go.Proofs.Ytjnkckpebfafjaa
