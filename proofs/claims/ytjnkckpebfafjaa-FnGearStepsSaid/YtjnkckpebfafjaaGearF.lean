/- Chapter 9: the nearest gear. -/
import Derived.Test.YtjnkckpebfafjaaGearD
import Derived.Deep.RegionHeld3
namespace Go.Proofs.Ytjnkckpebfafjaa
open Go.RowKit
set_option linter.unusedVariables false
set_option linter.unusedSimpArgs false

def bestF (d : Nat × Nat → Int) : Nat × Nat → List (Nat × Nat) → Nat × Nat
  | b, [] => b
  | b, e :: t => bestF d (if d e < d b then e else b) t
theorem bestF_snoc (d : Nat × Nat → Int) (b : Nat × Nat) (L : List (Nat × Nat)) (e : Nat × Nat) : bestF d b (L ++ [e]) = if d e < d (bestF d b L) then e else bestF d b L := by
  induction L generalizing b with
  | nil => rfl
  | cons x t ih => show bestF d _ (t ++ [e]) = _; rw [ih]; rfl
def dsF (fs rs : List Int) (n want : Int) (e : Nat × Nat) : Int := iabs (devF fs rs n e - want)
noncomputable def nearG (fs rs : List Int) (n want : Int) : Nat × Nat := bestF (dsF fs rs n want) (pAt (orderF fs rs) 0) (orderF fs rs)
noncomputable def ngE (fs rs : List Int) (n want : Int) : Int := if trB fs rs n then (if inB want 0 20000 then 0 else 2) else 1
noncomputable def ngF (fs rs : List Int) (n want : Int) : Int := if ngE fs rs n want = 0 then ((nearG fs rs n want).1 : Int) else 0
noncomputable def ngR (fs rs : List Int) (n want : Int) : Int := if ngE fs rs n want = 0 then ((nearG fs rs n want).2 : Int) else 0
theorem nearF_bd {a b : Int} (ha : 0 ≤ a) (hb : 1 ≤ b) : 0 ≤ nearF a b ∧ nearF a b ≤ a + 1 := by
  unfold nearF
  refine ⟨Int.ediv_nonneg (by omega) (by omega), ?_⟩
  have h1 : a * 1 ≤ a * b := Int.mul_le_mul_of_nonneg_left hb ha
  have h2 : (2 * a + b) / (2 * b) < a + 2 := by
    apply Int.ediv_lt_of_lt_mul (by omega)
    rw [Int.add_mul, ← Int.mul_assoc, Int.mul_comm a 2, Int.mul_assoc]; omega
  omega
theorem devF_bd {fs rs : List Int} {n : Int} (hn : 1000 ≤ n ∧ n ≤ 2500) (ht : TeethOk fs) (hu : TeethOk rs) {e : Nat × Nat} (he : e.1 < fs.length ∧ e.2 < rs.length) : 0 ≤ devF fs rs n e ∧ devF fs rs n e ≤ 150001 := by
  have g1 := ht.at he.1
  have g2 := hu.at he.2
  have m := mul_box (a := n) (b := tooth fs e.1) (A := 2500) (B := 60) (by omega) (by omega)
  have := nearF_bd (a := n * tooth fs e.1) (b := tooth rs e.2) (by omega) (by omega)
  unfold devF
  omega
def NRel (w2 : World) (gb : Nat) (d : Nat × Nat → Int) (e0 : Nat × Nat) (P : List (Nat × Nat)) (k : Nat) (e : Nat × Nat) (l : Int) : Prop :=
  IntsAt w2 (some ⟨gb, 0, none⟩) [(e.1 : Int), (e.2 : Int)] ∧ e ∈ P ∧ e = bestF d e0 (P.take k) ∧ (k = 0 ∧ l = -1 ∨ 0 < k ∧ l = d e)
theorem NearRet {a b c d e f : Int} (h : a = d) (h2 : b = e) (h3 : c = f) : Ending.returned (.tuple #[.int .i64 a, .int .i64 b, .int .i64 c]) = .returned (.tuple #[.int .i64 d, .int .i64 e, .int .i64 f]) := ret_int3 h h2 h3
set_option maxHeartbeats 6400000 in
theorem iNearestGear_c (a1 a2 : Option Addr) (c1 c2 : Nat) (fs rs : List Int) (n : Int) (w : World) (h1 : IntsAt w a1 fs) (h2 : IntsAt w a2 rs) (hl1 : fs.length ≤ 1048576) (hl2 : rs.length ≤ 1048576) (want : Int) :
    Calls Try.prog 14 #[.agg #[.slice a1 fs.length c1, .slice a2 rs.length c2, .int .i64 n], .int .i64 want] w fun e w' => e = .returned (.tuple #[.int .i64 (ngF fs rs n want), .int .i64 (ngR fs rs n want), .int .i64 (ngE fs rs n want)]) ∧ Upd [] w w' := by
  have H : Hid (∀ w', Upd [] w w' → IntsAt w' a1 fs ∧ IntsAt w' a2 rs) := fun w' u => ⟨h1.kept0 u, h2.kept0 u⟩
  clear h1 h2
  have B0 := Lib.hid (Box.new w (.slice a1 fs.length c1) (.slice a2 rs.length c2) (.int .i64 n) 26)
  have U0 := Lib.hid ((Upd.refl w).alloc (.cells #[.slice a1 fs.length c1, .slice a2 rs.length c2, .int .i64 n] 26))
  obtain ⟨hb0, hb1, hb2⟩ := B0.out.cells
  cases q : trB fs rs n
  · have HN : Hid (ngF fs rs n want = 0 ∧ ngR fs rs n want = 0 ∧ ngE fs rs n want = 1) := by refine ⟨?_, ?_, ?_⟩ <;> simp [ngE, ngF, ngR, q]
    go_enter Try.func14, Try.ntmps14
    go_wp2_with fail
    refine (iIsTrain_c a1 a2 _ _ fs rs _ _ (H.out _ U0.out).1 (H.out _ U0.out).2 hl1 hl2).mono ?_
    rintro e w1 ⟨rfl, u1⟩
    replace B0 := Lib.hid (B0.out.kept u1 (by simp))
    have U1 := Lib.hid (U0.out.then0 u1)
    clear u1 U0 hb0 hb1 hb2
    obtain ⟨hb0, hb1, hb2⟩ := B0.out.cells
    go_wp2_with fail
    go_ret3
    exact ⟨ret_int3 HN.out.1.symm HN.out.2.1.symm HN.out.2.2.symm, U1.out⟩
  cases q2 : inB want 0 20000
  · have HN : Hid (ngF fs rs n want = 0 ∧ ngR fs rs n want = 0 ∧ ngE fs rs n want = 2) := by refine ⟨?_, ?_, ?_⟩ <;> simp [ngE, ngF, ngR, q, q2]
    go_enter Try.func14, Try.ntmps14
    go_wp2_with fail
    refine (iIsTrain_c a1 a2 _ _ fs rs _ _ (H.out _ U0.out).1 (H.out _ U0.out).2 hl1 hl2).mono ?_
    rintro e w1 ⟨rfl, u1⟩
    replace B0 := Lib.hid (B0.out.kept u1 (by simp))
    have U1 := Lib.hid (U0.out.then0 u1)
    clear u1 U0 hb0 hb1 hb2
    obtain ⟨hb0, hb1, hb2⟩ := B0.out.cells
    go_wp2_with (go_at_call 36; refine (within_c _ _ _ _).mono ?_; rintro e w' ⟨rfl, rfl⟩)
    go_ret3
    exact ⟨ret_int3 HN.out.1.symm HN.out.2.1.symm HN.out.2.2.symm, U1.out⟩
  · obtain ⟨⟨t1, t2⟩, ⟨t3, t4⟩, t5⟩ := trB_t q
    have hwant := inB_t q2
    have HOF := Lib.hid (ord_facts q)
    have HN : Hid (ngF fs rs n want = ((bestF (dsF fs rs n want) (pAt (orderF fs rs) 0) (orderF fs rs)).1 : Int) ∧ ngR fs rs n want = ((bestF (dsF fs rs n want) (pAt (orderF fs rs) 0) (orderF fs rs)).2 : Int) ∧ ngE fs rs n want = 0) := by refine ⟨?_, ?_, ?_⟩ <;> simp [ngE, ngF, ngR, nearG, q, q2]
    go_enter Try.func14, Try.ntmps14
    go_wp2_with fail
    refine (iIsTrain_c a1 a2 _ _ fs rs _ _ (H.out _ U0.out).1 (H.out _ U0.out).2 hl1 hl2).mono ?_
    rintro e w1 ⟨rfl, u1⟩
    replace B0 := Lib.hid (B0.out.kept u1 (by simp))
    have U1 := Lib.hid (U0.out.then0 u1)
    clear u1 U0 hb0 hb1 hb2
    obtain ⟨hb0, hb1, hb2⟩ := B0.out.cells
    go_wp2_with (go_at_call 36; refine (within_c _ _ _ _).mono ?_; rintro e w' ⟨rfl, rfl⟩)
    refine (gearOrder_c a1 a2 _ _ fs rs n _ (H.out _ U1.out).1 (H.out _ U1.out).2 hl1 hl2 t2 t4 t1.2 t3.2).mono ?_
    rintro e w2 ⟨v, rfl, hg, u1⟩
    replace B0 := Lib.hid (B0.out.kept u1 (by simp))
    have U2 := Lib.hid (U1.out.then0 u1)
    have HS12 : Hid (w.heap.size ≤ w1.heap.size) := U1.out.size
    have HG := Lib.hid hg
    clear hg u1 U1 hb0 hb1 hb2
    generalize orderF fs rs = P at HOF HN HG
    obtain ⟨pa, pc, ev⟩ := HG.out.form
    subst ev
    have hP1 : 1 ≤ P.length := HOF.out.1
    have hP2 : P.length ≤ 36 := HOF.out.2.1
    have HIn := Lib.hid HOF.out.2.2.1
    clear HOF
    obtain ⟨b3, o3, ev⟩ := ints_some (H.out _ U2.out).1 (by omega)
    subst ev
    obtain ⟨b4, o4, ev⟩ := ints_some (H.out _ U2.out).2 (by omega)
    subst ev
    have g0 := pAt_get (P := P) (k := 0) (by omega)
    obtain ⟨e0, he0⟩ : ∃ e, pAt P 0 = e := ⟨_, rfl⟩
    rw [he0] at g0 HN
    obtain ⟨ob, oc, gz, ev, hcz, HZ⟩ := HG.out.get g0
    cases ev
    have Hg0 := Lib.hid g0
    clear g0 he0
    have i1 : (0 : Int) < (P.length : Int) := by omega
    have HR : Hid (NRel w2 gz (dsF fs rs n want) e0 P 0 e0 (-1)) := ⟨HZ.out, mem_of_get Hg0.out, rfl, .inl ⟨rfl, rfl⟩⟩
    have V2 : Hid (Upd [] w2 w2) := Upd.refl w2
    go_wp2_with fail
    clear hcz i1
    go_loopw [8, 9, 26] (fun bv lv i wr => ∃ (k gb : Nat) (e : Nat × Nat) (l : Int), k ≤ P.length ∧ i = .int .i64 k ∧ bv = .slice (some ⟨gb, 0, none⟩) 2 2 ∧ lv = .int .i64 l ∧ Hid (NRel w2 gb (dsF fs rs n want) e0 P k e l) ∧ Hid (Upd [] w2 wr)) (fun _ _ i _ => P.length - (intOf i).toNat)
    case atStart => exact ⟨0, gz, e0, -1, by omega, rfl, rfl, rfl, HR, V2⟩
    case round =>
      clear HR V2
      obtain ⟨k, gb, eb, l, hk, rfl, rfl, rfl, HR, V3⟩ := hrel
      obtain ⟨w3, ew3⟩ : ∃ x : World, x = wr := ⟨_, rfl⟩
      subst ew3
      have U3 := Lib.hid (U2.out.then0 V3.out)
      by_cases hlt : k < P.length
      · have hbm := HIn.out eb HR.out.2.1
        have gx := pAt_get hlt
        obtain ⟨x, hx⟩ : ∃ x, pAt P k = x := ⟨_, rfl⟩
        rw [hx] at gx
        have inx := HIn.out x (mem_of_get gx)
        obtain ⟨gx1, hcx, HX⟩ := HG.out.cell gx
        have HCx := Lib.hid hcx
        replace hcx := V3.out.cell hcx (by simp)
        have HGx := Lib.hid gx
        clear hx gx
        have HSt : Hid (bestF (dsF fs rs n want) e0 (P.take (k + 1)) = if dsF fs rs n want x < dsF fs rs n want eb then x else eb) := by
          show _ = _
          rw [take_step HGx.out, bestF_snoc, ← HR.out.2.2.1]
        have hdx := devF_bd t5 t2 t4 inx
        have hdb := devF_bd t5 t2 t4 hbm
        have HBx : Hid (-9223372036854775807 ≤ devF fs rs n x - want ∧ devF fs rs n x - want ≤ 9223372036854775807) := by constructor <;> omega
        have HBb : Hid (-9223372036854775807 ≤ devF fs rs n eb - want ∧ devF fs rs n eb - want ≤ 9223372036854775807) := by constructor <;> omega
        have hnx : 0 ≤ dsF fs rs n want x := iabs_nonneg _
        have hnb : 0 ≤ dsF fs rs n want eb := iabs_nonneg _
        have HDx : Hid (iabs (devF fs rs n x - want) = dsF fs rs n want x) := rfl
        have HDb : Hid (iabs (devF fs rs n eb - want) = dsF fs rs n want eb) := rfl
        have hw1 : IntKind.i64.wrap (devF fs rs n x - want) = devF fs rs n x - want := IntWalk.i64_in _ (by omega)
        have hw2 : IntKind.i64.wrap (devF fs rs n eb - want) = devF fs rs n eb - want := IntWalk.i64_in _ (by omega)
        have i1 : (0 : Int) ≤ (k : Int) := by omega
        have i2 : (k : Int) < (P.length : Int) := by omega
        have HSS : Hid (∀ w', Upd [] w2 w' → w'.cell? ⟨w.heap.size, 0, none⟩ = some (.slice (some ⟨b3, o3, none⟩) fs.length c1) ∧ w'.cell? ⟨w.heap.size, 1, none⟩ = some (.slice (some ⟨b4, o4, none⟩) rs.length c2) ∧ w'.cell? ⟨w.heap.size, 2, none⟩ = some (.int .i64 n) ∧
            w'.cell? ⟨gx1, 0, none⟩ = some (.int .i64 x.1) ∧ w'.cell? ⟨gx1, 1, none⟩ = some (.int .i64 x.2)) := fun w' u => by
          obtain ⟨q1, q2, q3⟩ := (B0.out.kept u (by simp)).cells
          have q4 := pair_cells (HX.out.kept0 u)
          exact ⟨q1, q2, q3, q4.1, q4.2⟩
        obtain ⟨s1, s2, s3, s4, s5⟩ := HSS.out _ V3.out
        have V4 := Lib.hid (V3.out.drew)
        have U4 := Lib.hid (U3.out.drew)
        go_wp2_with fail
        go_region_held3 (fun w' => w'.cell? ⟨w.heap.size, 0, none⟩ = some (.slice (some ⟨b3, o3, none⟩) fs.length c1) ∧ w'.cell? ⟨w.heap.size, 1, none⟩ = some (.slice (some ⟨b4, o4, none⟩) rs.length c2) ∧ w'.cell? ⟨w.heap.size, 2, none⟩ = some (.int .i64 n) ∧
            w'.cell? ⟨gx1, 0, none⟩ = some (.int .i64 x.1) ∧ w'.cell? ⟨gx1, 1, none⟩ = some (.int .i64 x.2))
          (first | exact HSS.out _ V3.out | exact HSS.out _ V4.out | exact HSS.out _ V5.out)
          (first
            | (go_at_call 44
               refine (development_c _ _ _ _ fs rs n _ (H.out _ U4.out).1 (H.out _ U4.out).2 hl1 hl2 x.1 x.2 inx.1 inx.2 t5 t2 t4).mono ?_
               rintro e w5 ⟨rfl, u1⟩
               have V5 := Lib.hid (V4.out.then0 u1)
               clear u1)
            | (go_at_call 43
               refine (abs_c _ _ HBx.out).mono ?_
               rintro e w' ⟨rfl, rfl⟩))
        clear hw1 hw2 s1 s2 s3 s4 s5 hcx i1 i2
        rw [HDx.out]
        by_cases hk0 : k = 0
        · obtain rfl : l = -1 := by rcases HR.out.2.2.2 with h | h <;> omega
          have HRn : Hid (NRel w2 gx1 (dsF fs rs n want) e0 P (k + 1) x (dsF fs rs n want x)) := by
            refine ⟨HX.out, mem_of_get HGx.out, ?_, .inr ⟨by omega, rfl⟩⟩
            have h1 := HSt.out
            have h2 := HR.out.2.2.1
            subst hk0
            have h3 : eb = e0 := h2
            have h4 : x = e0 := by have := HGx.out; rw [Hg0.out] at this; simpa using this.symm
            rw [h1, h3, h4]; split <;> rfl
          clear hk0
          go_wp2_with fail
          go_roundw
          case rel => exact ⟨k + 1, gx1, x, _, by omega, by go_num, rfl, rfl, HRn, V5⟩
          case measure => simp [intOf]; omega
        · obtain rfl : l = dsF fs rs n want eb := by
            rcases HR.out.2.2.2 with h | h
            · omega
            · exact h.2
          by_cases hless : dsF fs rs n want x < dsF fs rs n want eb
          · have HRn : Hid (NRel w2 gx1 (dsF fs rs n want) e0 P (k + 1) x (dsF fs rs n want x)) :=
              ⟨HX.out, mem_of_get HGx.out, by rw [HSt.out, if_pos hless], .inr ⟨by omega, rfl⟩⟩
            go_wp2_with fail
            go_roundw
            case rel => exact ⟨k + 1, gx1, x, _, by omega, by go_num, rfl, rfl, HRn, V5⟩
            case measure => simp [intOf]; omega
          · have HRn : Hid (NRel w2 gb (dsF fs rs n want) e0 P (k + 1) eb (dsF fs rs n want eb)) :=
              ⟨HR.out.1, HR.out.2.1, by rw [HSt.out, if_neg hless], .inr ⟨by omega, rfl⟩⟩
            go_wp2_with fail
            go_roundw
            case rel => exact ⟨k + 1, gb, eb, _, by omega, by go_num, rfl, rfl, HRn, V5⟩
            case measure => simp [intOf]; omega
      · obtain rfl : k = P.length := by omega
        have HE : Hid (eb = bestF (dsF fs rs n want) e0 P) := by have := HR.out.2.2.1; rwa [List.take_length] at this
        obtain ⟨hq0, hq1⟩ := pair_cells (HR.out.1.kept0 V3.out)
        go_wp2_with fail
        go_quiet (fail)
        go_wp2_with fail
        go_ret3
        exact ⟨ret_int3 (by rw [HN.out.1, ← HE.out]) (by rw [HN.out.2.1, ← HE.out]) HN.out.2.2.symm, (U3.out).drewN _⟩
set_option maxHeartbeats 6400000 in
theorem sNearestGear_c (a1 a2 : Option Addr) (c1 c2 : Nat) (fs rs : List Int) (n : Int) (w : World) (h1 : IntsAt w a1 fs) (h2 : IntsAt w a2 rs) (hl1 : fs.length ≤ 1048576) (hl2 : rs.length ≤ 1048576) (want : Int) :
    Calls Try.prog 15 #[.agg #[.slice a1 fs.length c1, .slice a2 rs.length c2, .int .i64 n], .int .i64 want] w fun e w' => e = .returned (.tuple #[.int .i64 (ngF fs rs n want), .int .i64 (ngR fs rs n want), .int .i64 (ngE fs rs n want)]) ∧ Upd [] w w' := by
  have H : Hid (∀ w', Upd [] w w' → IntsAt w' a1 fs ∧ IntsAt w' a2 rs) := fun w' u => ⟨h1.kept0 u, h2.kept0 u⟩
  clear h1 h2
  have B0 := Lib.hid (Box.new w (.slice a1 fs.length c1) (.slice a2 rs.length c2) (.int .i64 n) 26)
  have U0 := Lib.hid ((Upd.refl w).alloc (.cells #[.slice a1 fs.length c1, .slice a2 rs.length c2, .int .i64 n] 26))
  obtain ⟨hb0, hb1, hb2⟩ := B0.out.cells
  cases q : trB fs rs n
  · have HN : Hid (ngF fs rs n want = 0 ∧ ngR fs rs n want = 0 ∧ ngE fs rs n want = 1) := by refine ⟨?_, ?_, ?_⟩ <;> simp [ngE, ngF, ngR, q]
    go_enter Try.func15, Try.ntmps15
    go_wp2_with fail
    refine (sIsTrain_c a1 a2 _ _ fs rs _ _ (H.out _ U0.out).1 (H.out _ U0.out).2 hl1 hl2).mono ?_
    rintro e w1 ⟨rfl, u1⟩
    replace B0 := Lib.hid (B0.out.kept u1 (by simp))
    have U1 := Lib.hid (U0.out.then0 u1)
    clear u1 U0 hb0 hb1 hb2
    obtain ⟨hb0, hb1, hb2⟩ := B0.out.cells
    go_wp2_with fail
    go_ret3
    exact ⟨ret_int3 HN.out.1.symm HN.out.2.1.symm HN.out.2.2.symm, U1.out⟩
  cases q2 : inB want 0 20000
  · have HN : Hid (ngF fs rs n want = 0 ∧ ngR fs rs n want = 0 ∧ ngE fs rs n want = 2) := by refine ⟨?_, ?_, ?_⟩ <;> simp [ngE, ngF, ngR, q, q2]
    go_enter Try.func15, Try.ntmps15
    go_wp2_with fail
    refine (sIsTrain_c a1 a2 _ _ fs rs _ _ (H.out _ U0.out).1 (H.out _ U0.out).2 hl1 hl2).mono ?_
    rintro e w1 ⟨rfl, u1⟩
    replace B0 := Lib.hid (B0.out.kept u1 (by simp))
    have U1 := Lib.hid (U0.out.then0 u1)
    clear u1 U0 hb0 hb1 hb2
    obtain ⟨hb0, hb1, hb2⟩ := B0.out.cells
    go_wp2_with (go_at_call 39; refine (l01In_c _ _ _ _).mono ?_; rintro e w' ⟨rfl, rfl⟩)
    go_ret3
    exact ⟨ret_int3 HN.out.1.symm HN.out.2.1.symm HN.out.2.2.symm, U1.out⟩
  · obtain ⟨⟨t1, t2⟩, ⟨t3, t4⟩, t5⟩ := trB_t q
    have hwant := inB_t q2
    have HOF := Lib.hid (ord_facts q)
    have HN : Hid (ngF fs rs n want = ((bestF (dsF fs rs n want) (pAt (orderF fs rs) 0) (orderF fs rs)).1 : Int) ∧ ngR fs rs n want = ((bestF (dsF fs rs n want) (pAt (orderF fs rs) 0) (orderF fs rs)).2 : Int) ∧ ngE fs rs n want = 0) := by refine ⟨?_, ?_, ?_⟩ <;> simp [ngE, ngF, ngR, nearG, q, q2]
    go_enter Try.func15, Try.ntmps15
    go_wp2_with fail
    refine (sIsTrain_c a1 a2 _ _ fs rs _ _ (H.out _ U0.out).1 (H.out _ U0.out).2 hl1 hl2).mono ?_
    rintro e w1 ⟨rfl, u1⟩
    replace B0 := Lib.hid (B0.out.kept u1 (by simp))
    have U1 := Lib.hid (U0.out.then0 u1)
    clear u1 U0 hb0 hb1 hb2
    obtain ⟨hb0, hb1, hb2⟩ := B0.out.cells
    go_wp2_with (go_at_call 39; refine (l01In_c _ _ _ _).mono ?_; rintro e w' ⟨rfl, rfl⟩)
    refine (l09Order_c a1 a2 _ _ fs rs n _ (H.out _ U1.out).1 (H.out _ U1.out).2 hl1 hl2 t2 t4 t1.2 t3.2).mono ?_
    rintro e w2 ⟨v, rfl, hg, u1⟩
    replace B0 := Lib.hid (B0.out.kept u1 (by simp))
    have U2 := Lib.hid (U1.out.then0 u1)
    have HS12 : Hid (w.heap.size ≤ w1.heap.size) := U1.out.size
    have HG := Lib.hid hg
    clear hg u1 U1 hb0 hb1 hb2
    generalize orderF fs rs = P at HOF HN HG
    obtain ⟨pa, pc, ev⟩ := HG.out.form
    subst ev
    have hP1 : 1 ≤ P.length := HOF.out.1
    have hP2 : P.length ≤ 36 := HOF.out.2.1
    have HIn := Lib.hid HOF.out.2.2.1
    clear HOF
    obtain ⟨b3, o3, ev⟩ := ints_some (H.out _ U2.out).1 (by omega)
    subst ev
    obtain ⟨b4, o4, ev⟩ := ints_some (H.out _ U2.out).2 (by omega)
    subst ev
    have g0 := pAt_get (P := P) (k := 0) (by omega)
    obtain ⟨e0, he0⟩ : ∃ e, pAt P 0 = e := ⟨_, rfl⟩
    rw [he0] at g0 HN
    obtain ⟨ob, oc, gz, ev, hcz, HZ⟩ := HG.out.get g0
    cases ev
    have Hg0 := Lib.hid g0
    clear g0 he0
    have i1 : (0 : Int) < (P.length : Int) := by omega
    have HR : Hid (IntsAt w2 (some ⟨gz, 0, none⟩) [(e0.1 : Int), (e0.2 : Int)] ∧ e0 ∈ P ∧ e0 = bestF (dsF fs rs n want) e0 (P.take 0)) := ⟨HZ.out, mem_of_get Hg0.out, rfl⟩
    have V2 : Hid (Upd [] w2 w2) := Upd.refl w2
    go_wp2_with fail
    clear hcz i1
    go_loopw [8, 9] (fun bv i wr => ∃ (k gb : Nat) (e : Nat × Nat), k ≤ P.length ∧ i = .int .i64 k ∧ bv = .slice (some ⟨gb, 0, none⟩) 2 2 ∧ Hid (IntsAt w2 (some ⟨gb, 0, none⟩) [(e.1 : Int), (e.2 : Int)] ∧ e ∈ P ∧ e = bestF (dsF fs rs n want) e0 (P.take k)) ∧ Hid (Upd [] w2 wr)) (fun _ i _ => P.length - (intOf i).toNat)
    case atStart => exact ⟨0, gz, e0, by omega, rfl, rfl, HR, V2⟩
    case round =>
      clear HR V2
      obtain ⟨k, gb, eb, hk, rfl, rfl, HR, V3⟩ := hrel
      obtain ⟨w3, ew3⟩ : ∃ x : World, x = wr := ⟨_, rfl⟩
      subst ew3
      have U3 := Lib.hid (U2.out.then0 V3.out)
      by_cases hlt : k < P.length
      · have hbm := HIn.out eb HR.out.2.1
        have gx := pAt_get hlt
        obtain ⟨x, hx⟩ : ∃ x, pAt P k = x := ⟨_, rfl⟩
        rw [hx] at gx
        have inx := HIn.out x (mem_of_get gx)
        obtain ⟨gx1, hcx, HX⟩ := HG.out.cell gx
        have HCx := Lib.hid hcx
        replace hcx := V3.out.cell hcx (by simp)
        have HGx := Lib.hid gx
        clear hx gx
        have HSt : Hid (bestF (dsF fs rs n want) e0 (P.take (k + 1)) = if dsF fs rs n want x < dsF fs rs n want eb then x else eb) := by
          show _ = _
          rw [take_step HGx.out, bestF_snoc, ← HR.out.2.2]
        have hdx := devF_bd t5 t2 t4 inx
        have hdb := devF_bd t5 t2 t4 hbm
        have HBx : Hid (-9223372036854775807 ≤ devF fs rs n x - want ∧ devF fs rs n x - want ≤ 9223372036854775807) := by constructor <;> omega
        have HBb : Hid (-9223372036854775807 ≤ devF fs rs n eb - want ∧ devF fs rs n eb - want ≤ 9223372036854775807) := by constructor <;> omega
        have hnx : 0 ≤ dsF fs rs n want x := iabs_nonneg _
        have hnb : 0 ≤ dsF fs rs n want eb := iabs_nonneg _
        have HDx : Hid (iabs (devF fs rs n x - want) = dsF fs rs n want x) := rfl
        have HDb : Hid (iabs (devF fs rs n eb - want) = dsF fs rs n want eb) := rfl
        have hw1 : IntKind.i64.wrap (devF fs rs n x - want) = devF fs rs n x - want := IntWalk.i64_in _ (by omega)
        have hw2 : IntKind.i64.wrap (devF fs rs n eb - want) = devF fs rs n eb - want := IntWalk.i64_in _ (by omega)
        have i1 : (0 : Int) ≤ (k : Int) := by omega
        have i2 : (k : Int) < (P.length : Int) := by omega
        have HSS : Hid (∀ w', Upd [] w2 w' → w'.cell? ⟨w.heap.size, 0, none⟩ = some (.slice (some ⟨b3, o3, none⟩) fs.length c1) ∧ w'.cell? ⟨w.heap.size, 1, none⟩ = some (.slice (some ⟨b4, o4, none⟩) rs.length c2) ∧ w'.cell? ⟨w.heap.size, 2, none⟩ = some (.int .i64 n) ∧
            w'.cell? ⟨ob, k, none⟩ = some (.slice (some ⟨gx1, 0, none⟩) 2 2)) := fun w' u => by
          obtain ⟨q1, q2, q3⟩ := (B0.out.kept u (by simp)).cells
          exact ⟨q1, q2, q3, u.cell HCx.out (by simp)⟩
        obtain ⟨s1, s2, s3, s4⟩ := HSS.out _ V3.out
        have V := Lib.hid (V3.out.drew)
        have U := Lib.hid (U3.out.drew)
        go_wp2_with fail
        go_region_held3 (fun w' => w'.cell? ⟨w.heap.size, 0, none⟩ = some (.slice (some ⟨b3, o3, none⟩) fs.length c1) ∧ w'.cell? ⟨w.heap.size, 1, none⟩ = some (.slice (some ⟨b4, o4, none⟩) rs.length c2) ∧ w'.cell? ⟨w.heap.size, 2, none⟩ = some (.int .i64 n) ∧
            w'.cell? ⟨ob, k, none⟩ = some (.slice (some ⟨gx1, 0, none⟩) 2 2))
          (first | exact HSS.out _ V.out | exact HSS.out _ V3.out)
          (first
            | (go_at_call_of 48 (Value.slice (some ⟨gx1, 0, none⟩) 2 2)
               refine (l09Development_c _ _ _ _ fs rs n _ (H.out _ U.out).1 (H.out _ U.out).2 hl1 hl2 (some ⟨gx1, 0, none⟩) _ x.1 x.2 (HX.out.kept0 V.out) inx.1 inx.2 t5 t2 t4).mono ?_
               rintro e wn ⟨rfl, u1⟩
               have V := Lib.hid (V.out.then0 u1)
               have U := Lib.hid (U.out.then0 u1)
               clear u1)
            | (go_at_call_of 48 (Value.slice (some ⟨gb, 0, none⟩) 2 2)
               refine (l09Development_c _ _ _ _ fs rs n _ (H.out _ U.out).1 (H.out _ U.out).2 hl1 hl2 (some ⟨gb, 0, none⟩) _ eb.1 eb.2 (HR.out.1.kept0 V.out) hbm.1 hbm.2 t5 t2 t4).mono ?_
               rintro e wn ⟨rfl, u1⟩
               have V := Lib.hid (V.out.then0 u1)
               have U := Lib.hid (U.out.then0 u1)
               clear u1)
            | (go_at_call_of 47 (devF fs rs n x)
               refine (l01Abs_c _ _ HBx.out).mono ?_
               rintro e w' ⟨rfl, rfl⟩)
            | (go_at_call_of 47 (devF fs rs n eb)
               refine (l01Abs_c _ _ HBb.out).mono ?_
               rintro e w' ⟨rfl, rfl⟩))
        all_goals
          have hcy := V.out.cell HCx.out (by simp)
          clear s1 s2 s3 s4 hcx hw1 hw2
          rw [HDx.out, HDb.out]
          by_cases hless : dsF fs rs n want x < dsF fs rs n want eb
          · have HRn : Hid (IntsAt w2 (some ⟨gx1, 0, none⟩) [(x.1 : Int), (x.2 : Int)] ∧ x ∈ P ∧ x = bestF (dsF fs rs n want) e0 (P.take (k + 1))) :=
              ⟨HX.out, mem_of_get HGx.out, by rw [HSt.out, if_pos hless]⟩
            go_wp2_with fail
            go_roundw
            case rel => exact ⟨k + 1, gx1, x, by omega, by go_num, rfl, HRn, V⟩
            case measure => simp [intOf]; omega
          · have HRn : Hid (IntsAt w2 (some ⟨gb, 0, none⟩) [(eb.1 : Int), (eb.2 : Int)] ∧ eb ∈ P ∧ eb = bestF (dsF fs rs n want) e0 (P.take (k + 1))) :=
              ⟨HR.out.1, HR.out.2.1, by rw [HSt.out, if_neg hless]⟩
            go_wp2_with fail
            go_roundw
            case rel => exact ⟨k + 1, gb, eb, by omega, by go_num, rfl, HRn, V⟩
            case measure => simp [intOf]; omega
      · obtain rfl : k = P.length := by omega
        have HE : Hid (eb = bestF (dsF fs rs n want) e0 P) := by have := HR.out.2.2; rwa [List.take_length] at this
        obtain ⟨hq0, hq1⟩ := pair_cells (HR.out.1.kept0 V3.out)
        go_wp2_with fail
        go_quiet (fail)
        go_wp2_with fail
        go_ret3
        exact ⟨ret_int3 (by rw [HN.out.1, ← HE.out]) (by rw [HN.out.2.1, ← HE.out]) HN.out.2.2.symm, (U3.out).drewN _⟩
end Go.Proofs.Ytjnkckpebfafjaa
