/- The law of the gears. -/
import Derived.Test.YtjnkckpebfafjaaRowL
import Derived.Test.YtjnkckpebfafjaaGearF
import Derived.Test.YtjnkckpebfafjaaDrawT4
import Derived.Deep.CutBlock
import Derived.Deep.RegionHeld3
namespace Go.Proofs.Ytjnkckpebfafjaa
open Go.RowKit
set_option linter.unusedVariables false
set_option linter.unusedSimpArgs false

theorem rowsOf_len (P : List (Nat × Nat)) : (rowsOf P).length = P.length := by simp [rowsOf]
theorem rowsOf_row {P : List (Nat × Nat)} : ∀ r, r ∈ rowsOf P → r.length ≤ 1000 := by
  intro r hr
  obtain ⟨e, -, rfl⟩ := List.mem_map.1 hr
  simp
theorem rowsOf_get {P : List (Nat × Nat)} {k : Nat} (h : k < P.length) : (rowsOf P)[k]? = some [((pAt P k).1 : Int), ((pAt P k).2 : Int)] := by
  simp [rowsOf, pAt_get h]
theorem ordL_le (fs rs : List Int) (n : Int) : (ordL fs rs n).length ≤ 36 := by
  unfold ordL
  cases q : trB fs rs n
  · simp
  · exact (ord_facts q).2.1
theorem pAt_mem {P : List (Nat × Nat)} {k : Nat} (h : k < P.length) : pAt P k ∈ P := mem_of_get (pAt_get h)
theorem nearF_mono {a b x y : Int} (hb : 1 ≤ b) (hy : 1 ≤ y) (h : a * y ≤ x * b) : nearF a b ≤ nearF x y := by
  unfold nearF
  have h1 := Int.ediv_mul_le (2 * a + b) (show 2 * b ≠ 0 by omega)
  generalize (2 * a + b) / (2 * b) = q at h1
  refine Int.le_ediv_of_mul_le (by omega) ?_
  have h2 : (q * (2 * b)) * y ≤ (2 * a + b) * y := Int.mul_le_mul_of_nonneg_right h1 (by omega)
  have e1 : (q * (2 * b)) * y = (q * (2 * y)) * b := by rw [Int.mul_assoc, Int.mul_assoc, Int.mul_assoc, Int.mul_assoc, Int.mul_comm b y]
  have e2 : (2 * a + b) * y = 2 * (a * y) + b * y := by rw [Int.add_mul, Int.mul_assoc]
  have e3 : (2 * x + y) * b = 2 * (x * b) + b * y := by rw [Int.add_mul, Int.mul_assoc, Int.mul_comm y b]
  have h3 : (q * (2 * y)) * b ≤ (2 * x + y) * b := by omega
  exact Int.le_of_mul_le_mul_right h3 (by omega)
theorem devF_mono {fs rs : List Int} {n : Int} (hn : 0 ≤ n) {a b : Nat × Nat} (ha : 1 ≤ tooth rs a.2) (hb : 1 ≤ tooth rs b.2) (h : cmpG fs rs a b ≤ 0) : devF fs rs n a ≤ devF fs rs n b := by
  unfold devF
  refine nearF_mono ha hb ?_
  unfold cmpG at h
  rw [Int.mul_assoc, Int.mul_assoc]
  exact Int.mul_le_mul_of_nonneg_left (by omega) hn
theorem bestF_min (d : Nat × Nat → Int) (L : List (Nat × Nat)) : ∀ b, d (bestF d b L) ≤ d b ∧ (∀ e, e ∈ L → d (bestF d b L) ≤ d e) ∧ (bestF d b L = b ∨ bestF d b L ∈ L) := by
  induction L with
  | nil => intro b; exact ⟨Int.le_refl _, by simp, .inl rfl⟩
  | cons x t ih =>
    intro b
    rw [bestF]
    obtain ⟨h1, h2, h3⟩ := ih (if d x < d b then x else b)
    have hx : d (if d x < d b then x else b) ≤ d b ∧ d (if d x < d b then x else b) ≤ d x := by split <;> omega
    refine ⟨by omega, fun e he => ?_, ?_⟩
    · rcases List.mem_cons.1 he with rfl | he
      · omega
      · exact h2 e he
    · rcases h3 with h3 | h3
      · rw [h3]; split
        · exact .inr (by simp)
        · exact .inl rfl
      · exact .inr (by simp [h3])
/-- What the law wants of the gears in their order. -/
structure GearsOk (fs rs : List Int) (n want : Int) (P : List (Nat × Nat)) (F R D0 : Int) : Prop where
  tr : trB fs rs n = true
  near : codeF fs rs n F R = 0 ∧ devV fs rs n F R = D0
  bd0 : 0 ≤ D0 ∧ D0 ≤ 150001
  wb : 0 ≤ want ∧ want ≤ 20000
  len : P.length = fs.length * rs.length
  each : ∀ k, k < P.length → codeF fs rs n ((pAt P k).1 : Int) ((pAt P k).2 : Int) = 0 ∧ devV fs rs n ((pAt P k).1 : Int) ((pAt P k).2 : Int) = devF fs rs n (pAt P k) ∧ (0 ≤ devF fs rs n (pAt P k) ∧ devF fs rs n (pAt P k) ≤ 150001) ∧
    iabs (D0 - want) ≤ iabs (devF fs rs n (pAt P k) - want) ∧ (k + 1 < P.length → devF fs rs n (pAt P k) ≤ devF fs rs n (pAt P (k + 1)))
theorem gears_ok {fs rs : List Int} {n want : Int} (h : ngE fs rs n want = 0) : GearsOk fs rs n want (ordL fs rs n) (ngF fs rs n want) (ngR fs rs n want) (devF fs rs n (nearG fs rs n want)) := by
  have h0 := h
  unfold ngE at h
  cases q : trB fs rs n <;> cases q2 : inB want 0 20000 <;> simp [q, q2] at h
  obtain ⟨o1, o2, o3, o4⟩ := ord_facts q
  obtain ⟨⟨t1, t2⟩, ⟨t3, t4⟩, t5⟩ := trB_t q
  have eP : ordL fs rs n = orderF fs rs := by simp [ordL, q]
  have eF : ngF fs rs n want = ((nearG fs rs n want).1 : Int) := if_pos h0
  have eR : ngR fs rs n want = ((nearG fs rs n want).2 : Int) := if_pos h0
  obtain ⟨b1, b2, b3⟩ := bestF_min (dsF fs rs n want) (orderF fs rs) (pAt (orderF fs rs) 0)
  have hmem : nearG fs rs n want ∈ orderF fs rs := by
    unfold nearG
    rcases b3 with b3 | b3
    · rw [b3]; exact pAt_mem o1
    · exact b3
  have gear : ∀ e : Nat × Nat, e ∈ orderF fs rs → codeF fs rs n (e.1 : Int) (e.2 : Int) = 0 ∧ devV fs rs n (e.1 : Int) (e.2 : Int) = devF fs rs n e := by
    intro e he
    have hin := o3 e he
    have hg : gearB fs.length rs.length (e.1 : Int) (e.2 : Int) = true := by
      simp only [gearB, Bool.and_eq_true]; exact ⟨inB_mk (by omega), inB_mk (by omega)⟩
    exact ⟨by simp [codeF, q, hg], by simp [devV, q, hg]⟩
  rw [eP, eF, eR]
  refine ⟨q, gear _ hmem, devF_bd t5 t2 t4 (o3 _ hmem), inB_t q2, orderF_length fs rs, fun k hk => ?_⟩
  have hm := pAt_mem hk
  refine ⟨(gear _ hm).1, (gear _ hm).2, devF_bd t5 t2 t4 (o3 _ hm), b2 _ hm, fun hk1 => ?_⟩
  have hc : cmpG fs rs (pAt (orderF fs rs) k) (pAt (orderF fs rs) (k + 1)) ≤ 0 := by
    have e1 := pAt_get hk
    have e2 := pAt_get hk1
    rw [List.getElem?_eq_getElem hk] at e1
    rw [List.getElem?_eq_getElem hk1] at e2
    simp only [Option.some.injEq] at e1 e2
    have := (List.pairwise_iff_getElem.1 o4) k (k + 1) hk hk1 (by omega)
    rw [e1, e2] at this; exact this
  exact devF_mono (by omega) (t4.at (o3 _ hm).2).1 (t4.at (o3 _ (pAt_mem hk1)).2).1 hc
theorem rg_tr (fs rs : List Int) (n : Int) : trB fs rs n = (rgE fs rs n == 0) := by unfold rgE; cases trB fs rs n <;> simp
set_option maxRecDepth 20000 in
set_option maxHeartbeats 6400000 in
theorem FnGears_walk (a : Option Addr) (c : Nat) (bs : List Int) (w : World) (h : U8At w a bs) : Calls Try.prog 4 #[.slice a bs.length c] w (RetT w) := by
  have HC := Lib.hid h
  clear h
  by_cases hl : bs.length ≤ 4096
  case neg =>
    go_enter Try.func4, Try.ntmps4
    go_wp2_with (go_at_call 6; refine (big_x _ _ _ _ hl).mono ?_; rintro e w' ⟨rfl, rfl⟩)
    go_ret
    exact ⟨rfl, Upd.refl _⟩
  go_enter Try.func4, Try.ntmps4
  go_wp2_with (go_at_call 6; refine (big_y _ _ _ _ hl).mono ?_; rintro e w' ⟨rfl, rfl⟩)
  refine (DrawNearestGear_c a c bs _ HC.out hl).mono ?_
  rintro e wn ⟨p1, c1, p2, c2, fs, rs, n, wt, rfl, i1, i2, ⟨lf, lr⟩, hu⟩
  have U := Lib.hid hu
  replace HC : Hid (∀ w', Upd [] wn w' → U8At w' a bs) := fun w' u => (HC.out.kept0 hu).kept0 u
  clear hu
  have bX := Box.new wn (.slice p1 fs.length c1) (.slice p2 rs.length c2) (.int .i64 n) 26
  have uX : Upd [] wn (wn.alloc (.cells #[.slice p1 fs.length c1, .slice p2 rs.length c2, .int .i64 n] 26)) := (Upd.refl wn).alloc _
  have BX : Hid (∀ w', Upd [] (wn.alloc (.cells #[.slice p1 fs.length c1, .slice p2 rs.length c2, .int .i64 n] 26)) w' → Box w' wn.heap.size (.slice p1 fs.length c1) (.slice p2 rs.length c2) (.int .i64 n) 26 ∧ IntsAt w' p1 fs ∧ IntsAt w' p2 rs) := fun w' u => ⟨bX.kept u (by simp), (i1.kept0 uX).kept0 u, (i2.kept0 uX).kept0 u⟩
  have V : Hid (Upd [] (wn.alloc (.cells #[.slice p1 fs.length c1, .slice p2 rs.length c2, .int .i64 n] 26)) (wn.alloc (.cells #[.slice p1 fs.length c1, .slice p2 rs.length c2, .int .i64 n] 26))) := Upd.refl _
  replace U := Lib.hid (U.out.then0 uX)
  have HC := Lib.hid (fun w' u => HC.out w' (uX.then0 u))
  clear bX uX i1 i2
  obtain ⟨hb0, hb1, hb2⟩ := (BX.out _ V.out).1.cells
  go_wp2_with fail
  clear hb0 hb1 hb2
  generalize wn.heap.size = X_BX at BX ⊢
  generalize wn.alloc (.cells #[.slice p1 fs.length c1, .slice p2 rs.length c2, .int .i64 n] 26) = w_BX at BX V U HC ⊢
  refine (iNearestGear_c p1 p2 c1 c2 fs rs n _ (BX.out _ V.out).2.1 (BX.out _ V.out).2.2 (by omega) (by omega) wt).mono ?_
  rintro e w3 ⟨rfl, hu⟩
  replace V := Lib.hid (V.out.then0 hu)
  clear hu
  obtain ⟨hb0, hb1, hb2⟩ := (BX.out _ V.out).1.cells
  go_wp2_with fail
  clear hb0 hb1 hb2
  refine (sNearestGear_c p1 p2 c1 c2 fs rs n _ (BX.out _ V.out).2.1 (BX.out _ V.out).2.2 (by omega) (by omega) wt).mono ?_
  rintro e w4 ⟨rfl, hu⟩
  replace V := Lib.hid (V.out.then0 hu)
  clear hu
  have HG := Lib.hid (@gears_ok fs rs n wt)
  obtain ⟨F, hF⟩ : ∃ T, ngF fs rs n wt = T := ⟨_, rfl⟩
  obtain ⟨R, hR⟩ : ∃ T, ngR fs rs n wt = T := ⟨_, rfl⟩
  obtain ⟨E1, hE1⟩ : ∃ T, ngE fs rs n wt = T := ⟨_, rfl⟩
  obtain ⟨D0, hD0⟩ : ∃ T, devF fs rs n (nearG fs rs n wt) = T := ⟨_, rfl⟩
  rw [hF, hR, hE1] at HG ⊢
  rw [hD0] at HG
  clear hF hR hE1 hD0
  obtain ⟨hb0, hb1, hb2⟩ := (BX.out _ V.out).1.cells
  go_wp2_with fail
  clear hb0 hb1 hb2
  refine ((iGearOrder_c p1 p2 c1 c2 fs rs n _ (BX.out _ V.out).2.1 (BX.out _ V.out).2.2 (by omega) (by omega)).mono fun _ _ h => NewRC.read h).mono ?_
  rintro e w5 ⟨po, co, rfl, hrow, hu⟩
  replace V := Lib.hid (V.out.then0 hu)
  have HO := Lib.hid hrow
  clear hu hrow
  obtain ⟨hb0, hb1, hb2⟩ := (BX.out _ V.out).1.cells
  go_wp2_with fail
  clear hb0 hb1 hb2
  refine ((sGearOrder_c p1 p2 c1 c2 fs rs n _ (BX.out _ V.out).2.1 (BX.out _ V.out).2.2 (by omega) (by omega)).mono fun _ _ h => NewRC.read h).mono ?_
  rintro e w6 ⟨pq, cq, rfl, hrow, hu⟩
  replace V := Lib.hid (V.out.then0 hu)
  replace HO := Lib.hid (HO.out.kept0 hu)
  have HO2 := Lib.hid hrow
  clear hu hrow
  have hol := Lib.hid (ordL_le fs rs n)
  rw [rowsOf_len]
  obtain ⟨P, hP⟩ : ∃ T, ordL fs rs n = T := ⟨_, rfl⟩
  rw [hP] at HG HO HO2 hol ⊢
  clear hP
  go_wp2_with fail
  refine (DrawDevelopmentOf_c a c bs _ (HC.out _ V.out) hl).mono ?_
  rintro e wn ⟨q1, d1, q2, d2, gs, ss, m, f2, r2, rfl, i1, i2, ⟨lf2, lr2⟩, hu⟩
  replace U := Lib.hid ((U.out.then0 V.out).then0 hu)
  replace BX := Lib.hid (fun w' u => BX.out w' ((V.out.then0 hu).then0 u))
  replace HO : Hid (∀ w', Upd [] wn w' → RowsAt w' po (rowsOf P) ∧ RowsAt w' pq (rowsOf P)) := fun w' u => ⟨HO.out.kept0 (hu.then0 u), HO2.out.kept0 (hu.then0 u)⟩
  clear hu HC V hl HO2
  have bX := Box.new wn (.slice q1 gs.length d1) (.slice q2 ss.length d2) (.int .i64 m) 26
  have uX : Upd [] wn (wn.alloc (.cells #[.slice q1 gs.length d1, .slice q2 ss.length d2, .int .i64 m] 26)) := (Upd.refl wn).alloc _
  have BY : Hid (∀ w', Upd [] (wn.alloc (.cells #[.slice q1 gs.length d1, .slice q2 ss.length d2, .int .i64 m] 26)) w' → Box w' wn.heap.size (.slice q1 gs.length d1) (.slice q2 ss.length d2) (.int .i64 m) 26 ∧ IntsAt w' q1 gs ∧ IntsAt w' q2 ss) := fun w' u => ⟨bX.kept u (by simp), (i1.kept0 uX).kept0 u, (i2.kept0 uX).kept0 u⟩
  have V : Hid (Upd [] (wn.alloc (.cells #[.slice q1 gs.length d1, .slice q2 ss.length d2, .int .i64 m] 26)) (wn.alloc (.cells #[.slice q1 gs.length d1, .slice q2 ss.length d2, .int .i64 m] 26))) := Upd.refl _
  replace U := Lib.hid (U.out.then0 uX)
  have BX := Lib.hid (fun w' u => BX.out w' (uX.then0 u))
  have HO := Lib.hid (fun w' u => HO.out w' (uX.then0 u))
  clear bX uX i1 i2
  obtain ⟨hb0, hb1, hb2⟩ := (BY.out _ V.out).1.cells
  go_wp2_with fail
  clear hb0 hb1 hb2
  generalize wn.heap.size = X_BY at BY ⊢
  generalize wn.alloc (.cells #[.slice q1 gs.length d1, .slice q2 ss.length d2, .int .i64 m] 26) = w_BY at BY V U BX HO ⊢
  refine (iDevelopmentOf_c q1 q2 d1 d2 gs ss m _ (BY.out _ V.out).2.1 (BY.out _ V.out).2.2 (by omega) (by omega) f2 r2).mono ?_
  rintro e w7 ⟨rfl, hu⟩
  replace V := Lib.hid (V.out.then0 hu)
  clear hu
  obtain ⟨hb0, hb1, hb2⟩ := (BY.out _ V.out).1.cells
  go_wp2_with fail
  clear hb0 hb1 hb2
  refine (sDevelopmentOf_c q1 q2 d1 d2 gs ss m _ (BY.out _ V.out).2.1 (BY.out _ V.out).2.2 (by omega) (by omega) f2 r2).mono ?_
  rintro e w8 ⟨rfl, hu⟩
  replace V := Lib.hid (V.out.then0 hu)
  clear hu
  generalize devV gs ss m f2 r2 = S
  generalize codeF gs ss m f2 r2 = E2
  clear BY
  go_wp2_with fail
  refine (likeRows_n po pq co cq P.length (rowsOf P) _ (rowsOf_len P) (HO.out _ V.out).1 (HO.out _ V.out).2 (by have := hol.out; omega) rowsOf_row).mono ?_
  rintro e w9 ⟨rfl, hu⟩
  replace V := Lib.hid (V.out.then0 hu)
  clear hu
  obtain ⟨hb0, hb1, hb2⟩ := (BX.out _ V.out).1.cells
  go_wp2_with fail
  clear hb0 hb1 hb2
  refine (iIsTrain_c p1 p2 c1 c2 fs rs n _ (BX.out _ V.out).2.1 (BX.out _ V.out).2.2 (by omega) (by omega)).mono ?_
  rintro e w10 ⟨rfl, hu⟩
  replace V := Lib.hid (V.out.then0 hu)
  clear hu
  rw [rg_tr]
  generalize rgE fs rs n = E3
  by_cases e1 : E1 = 0
  case neg =>
    clear HG HO BX
    go_wp2_with fail
    go_ret
    exact ⟨rfl, U.out.then0 V.out⟩
  case pos =>
    subst e1
    have HGG := Lib.hid (HG.out rfl)
    clear HG
    obtain ⟨hb0, hb1, hb2⟩ := (BX.out _ V.out).1.cells
    go_wp2_with fail
    clear hb0 hb1 hb2
    refine (iDevelopmentOf_c p1 p2 c1 c2 fs rs n _ (BX.out _ V.out).2.1 (BX.out _ V.out).2.2 (by omega) (by omega) F R).mono ?_
    rintro e w11 ⟨rfl, hu⟩
    replace V := Lib.hid (V.out.then0 hu)
    clear hu
    rw [HGG.out.near.1, HGG.out.near.2]
    have hD0b := HGG.out.bd0
    have hwb := HGG.out.wb
    have h36 := hol.out
    go_wp2_with fail
    go_loopw [24, 25] (fun l i wr => ∃ (k : Nat) (l0 : Int), k ≤ P.length ∧ i = .int .i64 k ∧ l = .int .i64 l0 ∧ Hid (k < P.length → l0 ≤ devF fs rs n (pAt P k)) ∧ Hid (Upd [] w_BY wr)) (fun _ i _ => P.length - (intOf i).toNat)
    case atStart => exact ⟨0, 0, by omega, rfl, rfl, fun h => (HGG.out.each 0 h).2.2.1.1, V⟩
    case round =>
      clear V
      obtain ⟨k, l0, hk, rfl, rfl, HL, V⟩ := hrel
      obtain ⟨w12, ew12⟩ : ∃ x : World, x = wr := ⟨_, rfl⟩
      subst ew12
      by_cases hlt : k < P.length
      · obtain ⟨ab, ao, r, a', c', hpo, hc, HI, hx⟩ := (HO.out _ V.out).1.get (k := k) (by rw [rowsOf_len]; exact hlt)
        obtain rfl : r = [((pAt P k).1 : Int), ((pAt P k).2 : Int)] := by have := hx.out; rw [rowsOf_get hlt] at this; simpa using this.symm
        have hc2 : w12.cell? ⟨ab, ao + k, none⟩ = some (.slice a' 2 c') := hc
        obtain ⟨gb, go, ea, hg0, hg1⟩ := pair_get HI.out
        subst ea
        subst hpo
        obtain ⟨e1, e2, e3, e4, e5⟩ := HGG.out.each k hlt
        have HLk := HL.out hlt
        have HE := Lib.hid (show _ ∧ _ from ⟨e1, e2⟩)
        have HN := Lib.hid e5
        have i1 : (0 : Int) ≤ (k : Int) := by omega
        have i2 : (k : Int) < (P.length : Int) := by omega
        have HSS : Hid (∀ w', Upd [] w12 w' → w'.cell? ⟨X_BX, 0, none⟩ = some (.slice p1 fs.length c1) ∧ w'.cell? ⟨X_BX, 1, none⟩ = some (.slice p2 rs.length c2) ∧ w'.cell? ⟨X_BX, 2, none⟩ = some (.int .i64 n) ∧ w'.cell? ⟨ab, ao + k, none⟩ = some (.slice (some ⟨gb, go, none⟩) 2 c') ∧ w'.cell? ⟨gb, go, none⟩ = some (.int .i64 ((pAt P k).1 : Int)) ∧ w'.cell? ⟨gb, go + 1, none⟩ = some (.int .i64 ((pAt P k).2 : Int))) := fun w' u =>
          ⟨(BX.out _ (V.out.then0 u)).1.cells.1, (BX.out _ (V.out.then0 u)).1.cells.2.1, (BX.out _ (V.out.then0 u)).1.cells.2.2, u.cell hc2 (by simp), u.cell hg0 (by simp), u.cell hg1 (by simp)⟩
        have V4 := Lib.hid (V.out.drew)
        obtain ⟨hb0, hb1, hb2, -⟩ := HSS.out _ (Upd.refl _)
        clear hc hx HI HL e1 e2 e5
        go_wp2_with fail
        go_region_held3 (fun w' => w'.cell? ⟨X_BX, 0, none⟩ = some (.slice p1 fs.length c1) ∧ w'.cell? ⟨X_BX, 1, none⟩ = some (.slice p2 rs.length c2) ∧ w'.cell? ⟨X_BX, 2, none⟩ = some (.int .i64 n) ∧ w'.cell? ⟨ab, ao + k, none⟩ = some (.slice (some ⟨gb, go, none⟩) 2 c') ∧ w'.cell? ⟨gb, go, none⟩ = some (.int .i64 ((pAt P k).1 : Int)) ∧ w'.cell? ⟨gb, go + 1, none⟩ = some (.int .i64 ((pAt P k).2 : Int)))
          (first | exact HSS.out _ (Upd.refl _) | exact HSS.out _ (Upd.refl _).drew | exact HSS.out _ V6.out)
          (first
            | (go_at_call 19
               refine (iDevelopmentOf_c p1 p2 c1 c2 fs rs n _ (BX.out _ V4.out).2.1 (BX.out _ V4.out).2.2 (by omega) (by omega) ((pAt P k).1 : Int) ((pAt P k).2 : Int)).mono ?_
               rintro e w13 ⟨rfl, hu⟩
               have V5 := Lib.hid (V4.out.then0 hu)
               have V6 := Lib.hid ((Upd.refl w12).drew.then0 hu)
               clear hu))
        rw [HE.out.1, HE.out.2]
        clear hb0 hb1 hb2 hc2 hg0 hg1 V V4 V6 HSS HE
        have V := V5
        clear V5
        obtain ⟨Dk, hDk⟩ : ∃ T, devF fs rs n (pAt P k) = T := ⟨_, rfl⟩
        rw [hDk] at e3 e4 HLk HN ⊢
        clear hDk
        have hw1 : IntKind.i64.wrap (Dk - wt) = Dk - wt := IntWalk.i64_in _ (by omega)
        have hw2 : IntKind.i64.wrap (wt - Dk) = wt - Dk := IntWalk.i64_in _ (by omega)
        have hw3 : IntKind.i64.wrap (D0 - wt) = D0 - wt := IntWalk.i64_in _ (by omega)
        have hw4 : IntKind.i64.wrap (wt - D0) = wt - D0 := IntWalk.i64_in _ (by omega)
        by_cases hxn : Dk - wt < 0
        all_goals by_cases hyn : D0 - wt < 0
        all_goals unfold iabs at e4
        all_goals first | rw [if_pos hxn] at e4 | rw [if_neg hxn] at e4
        all_goals first | rw [if_pos hyn] at e4 | rw [if_neg hyn] at e4
        all_goals
          go_wp2_with fail
        all_goals
          go_roundw
          case rel => exact ⟨k + 1, Dk, by omega, by go_num, rfl, fun h => HN.out h, V⟩
          case measure => simp [intOf]; omega
      · obtain rfl : k = P.length := by omega
        have hb36 := mul_box (a := (fs.length : Int)) (b := (rs.length : Int)) (A := 3) (B := 10) (by omega) (by omega)
        have hw1 : IntKind.i64.wrap ((fs.length : Int) * (rs.length : Int)) = (fs.length : Int) * (rs.length : Int) := IntWalk.i64_in _ (by omega)
        have hpl : ((P.length : Int) == (fs.length : Int) * (rs.length : Int)) = true := by rw [beq_iff_eq, HGG.out.len]; simp
        have hpl2 : (P.length : Int) = (fs.length : Int) * (rs.length : Int) := by rw [HGG.out.len]; simp
        have HPL := Lib.hid hpl2
        clear hpl2
        obtain ⟨hb0, hb1, hb2⟩ := (BX.out _ V.out).1.cells
        clear HL HGG hb36
        go_wp2_with fail
        go_ret
        exact ⟨rfl, U.out.then0 V.out⟩
end Go.Proofs.Ytjnkckpebfafjaa
