/- Chapter 9: equal gears. -/
import Derived.Test.YtjnkckpebfafjaaGearD
import Derived.Deep.RegionHeld3
namespace Go.Proofs.Ytjnkckpebfafjaa
open Go.RowKit
set_option linter.unusedVariables false
set_option linter.unusedSimpArgs false

/-- Gears of another order, in an outer slice of one's own. -/
def EG (w2 w : World) (v : Value) (P : List (Nat × Nat)) : Prop := ∃ G : List (Nat × (Nat × Nat)), OwnV w w2.heap.size v (G.map fun x => .slice (some ⟨x.1, 0, none⟩) 2 2) ∧ G.map (·.2) = P ∧ ∀ x, x ∈ G → IntsAt w2 (some ⟨x.1, 0, none⟩) [(x.2.1 : Int), (x.2.2 : Int)]
theorem EG.read {w2 w : World} {v : Value} {P : List (Nat × Nat)} (h : EG w2 w v P) (u : Upd [] w2 w) : ∃ a c, v = .slice a (rowsOf P).length c ∧ RowsAt w a (rowsOf P) := by
  obtain ⟨G, h1, h2, h3⟩ := h
  have hl : G.length = P.length := by rw [← h2]; simp
  obtain ⟨a, c, rfl, h4, h5⟩ := h1.form
  refine ⟨a, c, by simp [rowsOf, hl], ?_⟩
  cases ha : a with
  | none =>
    have := h5 ha
    have : P = [] := List.eq_nil_of_length_eq_zero (by simp at this; rw [← hl, this]; rfl)
    exact .inl (by simp [rowsOf, this])
  | some ad =>
    obtain ⟨-, -, e1, e2⟩ := h4 ad ha
    obtain ⟨b, off, spot⟩ := ad
    simp only at e1 e2
    subst e1; subst e2
    refine .inr ⟨b, 0, rfl, fun k r hr => ?_⟩
    rw [rowsOf, List.getElem?_map, ← h2, List.getElem?_map] at hr
    cases hk : G[k]? with
    | none => rw [hk] at hr; simp at hr
    | some x =>
      rw [hk] at hr
      simp only [Option.map_some, Option.some.injEq] at hr
      subst hr
      rw [ha] at h1
      have hc := h1.cell (k := k) (x := .slice (some ⟨x.1, 0, none⟩) 2 2) (by rw [List.getElem?_map, hk]; rfl)
      rw [Nat.zero_add]
      exact ⟨_, _, hc, (h3 x (mem_of_get hk)).kept0 u⟩
/-- New rows that read as the gears. -/
def RG (w : World) (B : Nat) (v : Value) (P : List (Nat × Nat)) : Prop := ∃ L, OwnR w B v L ∧ L.map (·.2.2) = rowsOf P
theorem RG.kept0 {w w' : World} {B : Nat} {v : Value} {P : List (Nat × Nat)} (h : RG w B v P) (u : Upd [] w w') : RG w' B v P := by
  obtain ⟨L, h1, h2⟩ := h; exact ⟨L, h1.kept0 u, h2⟩
theorem EG.kept0 {w2 w w' : World} {v : Value} {P : List (Nat × Nat)} (h : EG w2 w v P) (u : Upd [] w w') : EG w2 w' v P := by
  obtain ⟨G, h1, h2, h3⟩ := h; exact ⟨G, h1.kept0 u, h2, h3⟩
theorem sgnI_eq {x : Int} (h : ¬ x = 0) : ¬ sgnI x = 0 := by unfold sgnI; split <;> (try split) <;> omega
set_option maxHeartbeats 3200000 in
theorem iEqualGears_c (a1 a2 : Option Addr) (c1 c2 : Nat) (fs rs : List Int) (n : Int) (w : World) (h1 : IntsAt w a1 fs) (h2 : IntsAt w a2 rs) (hl1 : fs.length ≤ 1048576) (hl2 : rs.length ≤ 1048576) :
    Calls Try.prog 24 #[.agg #[.slice a1 fs.length c1, .slice a2 rs.length c2, .int .i64 n]] w (NewRC w (rowsOf (eqL fs rs n)) (rgE fs rs n)) := by
  have H : Hid (∀ w', Upd [] w w' → IntsAt w' a1 fs ∧ IntsAt w' a2 rs) := fun w' u => ⟨h1.kept0 u, h2.kept0 u⟩
  clear h1 h2
  have B0 := Lib.hid (Box.new w (.slice a1 fs.length c1) (.slice a2 rs.length c2) (.int .i64 n) 26)
  have U0 := Lib.hid ((Upd.refl w).alloc (.cells #[.slice a1 fs.length c1, .slice a2 rs.length c2, .int .i64 n] 26))
  obtain ⟨hb0, hb1, hb2⟩ := B0.out.cells
  cases q : trB fs rs n
  · have HN : Hid (rowsOf (eqL fs rs n) = [] ∧ rgE fs rs n = 1) := by constructor <;> simp [eqL, rgE, rowsOf, q]
    go_enter Try.func24, Try.ntmps24
    go_wp2_with fail
    refine (iIsTrain_c a1 a2 _ _ fs rs _ _ (H.out _ U0.out).1 (H.out _ U0.out).2 hl1 hl2).mono ?_
    rintro e w1 ⟨rfl, u1⟩
    replace B0 := Lib.hid (B0.out.kept u1 (by simp))
    have U1 := Lib.hid (U0.out.then0 u1)
    clear u1 U0 hb0 hb1 hb2
    obtain ⟨hb0, hb1, hb2⟩ := B0.out.cells
    go_wp2_with fail
    go_ret2
    rw [HN.out.1, HN.out.2]
    exact ⟨_, [], rfl, ⟨OwnV.nil _ _, Inn.nil _ _⟩, rfl, U1.out⟩
  · obtain ⟨⟨t1, t2⟩, ⟨t3, t4⟩, t5⟩ := trB_t q
    have HOF := Lib.hid (ord_facts q)
    have HN : Hid (rowsOf (eqL fs rs n) = rowsOf (eqN fs rs (orderF fs rs) ((orderF fs rs).length - 1)) ∧ rgE fs rs n = 0) := by constructor <;> simp [eqL, rgE, rowsOf, q]
    go_enter Try.func24, Try.ntmps24
    go_wp2_with fail
    refine (iIsTrain_c a1 a2 _ _ fs rs _ _ (H.out _ U0.out).1 (H.out _ U0.out).2 hl1 hl2).mono ?_
    rintro e w1 ⟨rfl, u1⟩
    replace B0 := Lib.hid (B0.out.kept u1 (by simp))
    have U1 := Lib.hid (U0.out.then0 u1)
    clear u1 U0 hb0 hb1 hb2
    obtain ⟨hb0, hb1, hb2⟩ := B0.out.cells
    go_wp2_with fail
    refine (gearOrder_c a1 a2 _ _ fs rs n _ (H.out _ U1.out).1 (H.out _ U1.out).2 hl1 hl2 t2 t4 t1.2 t3.2).mono ?_
    rintro e w2 ⟨v, rfl, hg, u1⟩
    replace B0 := Lib.hid (B0.out.kept u1 (by simp))
    have U2 := Lib.hid (U1.out.then0 u1)
    have HS12 : Hid (w.heap.size ≤ w1.heap.size) := U1.out.size
    have HG := Lib.hid hg
    clear hg u1 U1 hb0 hb1 hb2
    generalize orderF fs rs = P at HOF HN HG
    obtain ⟨pa, pc, ev⟩ := HG.out.form
    subst ev
    have hP1 : 1 ≤ P.length := HOF.out.1
    have hP2 : P.length ≤ 36 := HOF.out.2.1
    have HIn := Lib.hid HOF.out.2.2.1
    clear HOF
    obtain ⟨b3, o3, ev⟩ := ints_some (H.out _ U2.out).1 (by omega)
    subst ev
    obtain ⟨b4, o4, ev⟩ := ints_some (H.out _ U2.out).2 (by omega)
    subst ev
    have HO : Hid (RG w2 w2.heap.size (.slice none 0 0) (eqN fs rs P 0)) := ⟨[], ⟨OwnV.nil _ _, Inn.nil _ _⟩, rfl⟩
    have V2 : Hid (Upd [] w2 w2) := Upd.refl w2
    go_wp2_with fail
    go_loopw [5, 6] (fun v i wr => ∃ k : Nat, k + 1 ≤ P.length ∧ i = .int .i64 ((k + 1 : Nat) : Int) ∧ Hid (RG wr w2.heap.size v (eqN fs rs P k)) ∧ Hid (Upd [] w2 wr)) (fun _ i _ => P.length - (intOf i).toNat)
    case atStart => exact ⟨0, by omega, rfl, HO, V2⟩
    case round =>
      clear HO V2
      obtain ⟨k, hk, rfl, HO, V3⟩ := hrel
      obtain ⟨w3, ew3⟩ : ∃ x : World, x = wr := ⟨_, rfl⟩
      subst ew3
      have U3 := Lib.hid (U2.out.then0 V3.out)
      have B3 := Lib.hid (B0.out.kept V3.out (by simp))
      by_cases hlt : k + 1 < P.length
      · skip
        obtain ⟨a, ea⟩ : ∃ a, pAt P k = a := ⟨_, rfl⟩
        obtain ⟨b, eb⟩ : ∃ b, pAt P (k + 1) = b := ⟨_, rfl⟩
        have ga := pAt_get (P := P) (k := k) (by omega)
        have gb := pAt_get hlt
        rw [ea] at ga
        rw [eb] at gb
        have ina := HIn.out a (mem_of_get ga)
        have inb := HIn.out b (mem_of_get gb)
        obtain ⟨ob, oc, gx, ev, hca, HA⟩ := HG.out.get ga
        cases ev
        obtain ⟨gy, hcb, HB⟩ := HG.out.cell gb
        replace hca := V3.out.cell hca (by simp)
        replace hcb := V3.out.cell hcb (by simp)
        have HEa := Lib.hid ea
        have HEb := Lib.hid eb
        clear ea eb ga gb
        have HOl := Lib.hid (eqN_le fs rs P k)
        have HCb : Hid (w2.cell? ⟨ob, k + 1, none⟩ = some (.slice (some ⟨gy, 0, none⟩) 2 2)) := by
          obtain ⟨gy2, hcb2, -⟩ := HG.out.cell (pAt_get hlt)
          have h1 := V3.out.cell hcb2 (by simp)
          rw [hcb] at h1
          simp only [Option.some.injEq] at h1
          rw [h1]; exact hcb2
        obtain ⟨hb0, hb1, hb2⟩ := B3.out.cells
        have i1 : (0 : Int) ≤ ((k + 1 : Nat) : Int) - 1 := by omega
        have i2 : ((k + 1 : Nat) : Int) - 1 < (P.length : Int) := by omega
        have i3 : (0 : Int) ≤ ((k + 1 : Nat) : Int) := by omega
        have i4 : ((k + 1 : Nat) : Int) < (P.length : Int) := by omega
        have i5 : (((k + 1 : Nat) : Int) - 1).toNat = k := by omega
        have i6 : (0 : Int) ≤ (k : Int) := by omega
        have i7 : (k : Int) < (P.length : Int) := by omega
        have hw1 : IntKind.i64.wrap (((k + 1 : Nat) : Int) - 1) = ((k + 1 : Nat) : Int) - 1 := IntWalk.i64_in _ (by omega)
        have hw2 : IntKind.i64.wrap ((k : Int) + 1 - 1) = (k : Int) := by rw [show (k : Int) + 1 - 1 = k by omega]; exact IntWalk.i64_in _ (by omega)
        have i8 : (1 : Int) ≤ ((k + 1 : Nat) : Int) := by omega
        have hw3 : IntKind.i64.wrap (k : Int) = (k : Int) := IntWalk.i64_in _ (by omega)
        have i9 : (0 : Int) ≤ (k : Int) + 1 := by omega
        have i10 : (k : Int) + 1 < (P.length : Int) := by omega
        have i11 : ((k : Int) + 1).toNat = k + 1 := by omega
        obtain ⟨s, hs⟩ : ∃ s, cmpG fs rs a b = s := ⟨_, rfl⟩
        have HSs := Lib.hid hs
        clear hs
        go_wp2_with fail
        refine wp_region_still_tail 10 (by kernel_rfl) (by kernel_rfl) ?_
        simp only [List.take_succ_cons, List.take_zero, List.drop_succ_cons, List.drop_zero]
        repeat still_step
        refine wpStill_nil ?_
        clear i1 i2 i3 i4 i5 i6 i7 i8 i9 i10 i11 hw1 hw2 hw3 hca hcb hb0 hb1 hb2
        change wpList _ _ _ _ _ w3.drew
        replace HO := Lib.hid (HO.out.kept0 (Upd.refl w3).drew)
        replace V3 := Lib.hid (V3.out.drew)
        replace U3 := Lib.hid (U3.out.drew)
        clear B3
        generalize w3.drew = w4 at HO V3 U3 ⊢
        go_wp2_with fail
        refine (compareRatios_c _ _ _ _ fs rs n _ (H.out _ U3.out).1 (H.out _ U3.out).2 hl1 hl2 _ _ _ _ a.1 a.2 b.1 b.2 s HSs.out (HA.out.kept0 V3.out) (HB.out.kept0 V3.out) ina.1 ina.2 inb.1 inb.2 t2 t4).mono ?_
        rintro e w5 ⟨rfl, u1⟩
        replace HO := Lib.hid (HO.out.kept0 u1)
        replace V3 := Lib.hid (V3.out.then0 u1)
        replace U3 := Lib.hid (U3.out.then0 u1)
        clear u1
        by_cases hz : cmpG fs rs a b = 0
        · have hs0 : s = 0 := by rw [← HSs.out, hz]
          have HNx : Hid (eqN fs rs P (k + 1) = eqN fs rs P k ++ [b]) := by show _ = _; rw [eqN, HEa.out, HEb.out, if_pos hz]
          clear HSs
          subst hs0
          have hcb := V3.out.cell HCb.out (by simp)
          have i3 : (0 : Int) ≤ ((k + 1 : Nat) : Int) := by omega
          have i4 : ((k + 1 : Nat) : Int) < (P.length : Int) := by omega
          obtain ⟨L, hor, hL⟩ := HO.out
          have HLl : Hid (L.length ≤ 36) := by
            have := congrArg List.length hL
            simp [rowsOf] at this
            have := HOl.out
            show _ ≤ _; omega
          have HR := Lib.hid (show _ ∧ _ from ⟨hor, hL⟩)
          clear hor hL HO
          go_wp2_with fail
          refine (copyList_c _ _ [(b.1 : Int), (b.2 : Int)] _ (HB.out.kept0 V3.out) (by simp)).mono ?_
          rintro e w6 ⟨vn, rfl, on, u1⟩
          obtain ⟨gn, cn, ev, hgn1, hgn2⟩ := on.row (by simp)
          have ev2 : vn = .slice (some ⟨gn, 0, none⟩) 2 cn := ev
          subst ev2
          have HI6 : Hid (Inn w6 w2.heap.size (L ++ [(gn, cn, [(b.1 : Int), (b.2 : Int)])])) := (HR.out.1.2.kept0 u1).snoc (gn, cn, [(b.1 : Int), (b.2 : Int)]) (on.mono V3.out.size) fun x hx => by
            have := (HR.out.1.2.lt hx).2; show _ ≠ gn; omega
          have HV6 := Lib.hid (HR.out.1.1.kept0 u1)
          have V6 := Lib.hid (V3.out.then0 u1)
          clear on u1 hcb
          go_wp2_with (at_builtin; refine wpList_appV rfl _ _ rfl _ _ (some ⟨gn, 0, none⟩) 2 cn rfl rfl HV6.out V6.out (by have := HLl.out; simp; omega) ?_; intro v' w7 z1 z2 z3; have Z1 := Lib.hid z1; have Z3 := Lib.hid z3; have HI7 := Lib.hid (HI6.out.keptV HV6.out z2); clear z1 z2 z3)
          have HOn : Hid (RG w7 w2.heap.size v' (eqN fs rs P (k + 1))) := by
            refine ⟨_, ⟨?_, HI7.out⟩, ?_⟩
            · have := Z1.out
              rw [List.map_append]; exact this
            · rw [HNx.out, List.map_append, HR.out.2]; simp [rowsOf]
          go_roundw
          case rel => exact ⟨k + 1, by omega, by go_num, HOn, Z3⟩
          case measure => simp [intOf]; omega
        · have hs0 : ¬ s = 0 := by rw [← HSs.out]; exact hz
          have HNx : Hid (eqN fs rs P (k + 1) = eqN fs rs P k) := by show _ = _; rw [eqN, HEa.out, HEb.out, if_neg hz]
          clear HSs
          go_wp2_with fail
          go_roundw
          case rel => exact ⟨k + 1, by omega, by go_num, by rw [HNx.out]; exact HO, V3⟩
          case measure => simp [intOf]; omega
      · obtain rfl : k = P.length - 1 := by omega
        go_wp2_with fail
        go_ret2
        rw [HN.out.1, HN.out.2]
        obtain ⟨L, g1, g2⟩ := HO.out
        exact ⟨_, L, rfl, g1.mono (by have := HS12.out; have := U2.out.size; omega), g2, U3.out⟩
set_option maxHeartbeats 3200000 in
theorem sEqualGears_c (a1 a2 : Option Addr) (c1 c2 : Nat) (fs rs : List Int) (n : Int) (w : World) (h1 : IntsAt w a1 fs) (h2 : IntsAt w a2 rs) (hl1 : fs.length ≤ 1048576) (hl2 : rs.length ≤ 1048576) :
    Calls Try.prog 25 #[.agg #[.slice a1 fs.length c1, .slice a2 rs.length c2, .int .i64 n]] w (ReadRC w (rowsOf (eqL fs rs n)) (rgE fs rs n)) := by
  have H : Hid (∀ w', Upd [] w w' → IntsAt w' a1 fs ∧ IntsAt w' a2 rs) := fun w' u => ⟨h1.kept0 u, h2.kept0 u⟩
  clear h1 h2
  have B0 := Lib.hid (Box.new w (.slice a1 fs.length c1) (.slice a2 rs.length c2) (.int .i64 n) 26)
  have U0 := Lib.hid ((Upd.refl w).alloc (.cells #[.slice a1 fs.length c1, .slice a2 rs.length c2, .int .i64 n] 26))
  obtain ⟨hb0, hb1, hb2⟩ := B0.out.cells
  cases q : trB fs rs n
  · have HN : Hid (rowsOf (eqL fs rs n) = [] ∧ rgE fs rs n = 1) := by constructor <;> simp [eqL, rgE, rowsOf, q]
    go_enter Try.func25, Try.ntmps25
    go_wp2_with fail
    refine (sIsTrain_c a1 a2 _ _ fs rs _ _ (H.out _ U0.out).1 (H.out _ U0.out).2 hl1 hl2).mono ?_
    rintro e w1 ⟨rfl, u1⟩
    replace B0 := Lib.hid (B0.out.kept u1 (by simp))
    have U1 := Lib.hid (U0.out.then0 u1)
    clear u1 U0 hb0 hb1 hb2
    obtain ⟨hb0, hb1, hb2⟩ := B0.out.cells
    go_wp2_with fail
    go_ret2
    rw [HN.out.1, HN.out.2]
    exact ⟨none, 0, rfl, .inl rfl, U1.out⟩
  · obtain ⟨⟨t1, t2⟩, ⟨t3, t4⟩, t5⟩ := trB_t q
    have HOF := Lib.hid (ord_facts q)
    have HN : Hid (rowsOf (eqL fs rs n) = rowsOf (eqN fs rs (orderF fs rs) ((orderF fs rs).length - 1)) ∧ rgE fs rs n = 0) := by constructor <;> simp [eqL, rgE, rowsOf, q]
    go_enter Try.func25, Try.ntmps25
    go_wp2_with fail
    refine (sIsTrain_c a1 a2 _ _ fs rs _ _ (H.out _ U0.out).1 (H.out _ U0.out).2 hl1 hl2).mono ?_
    rintro e w1 ⟨rfl, u1⟩
    replace B0 := Lib.hid (B0.out.kept u1 (by simp))
    have U1 := Lib.hid (U0.out.then0 u1)
    clear u1 U0 hb0 hb1 hb2
    obtain ⟨hb0, hb1, hb2⟩ := B0.out.cells
    go_wp2_with fail
    refine (l09Order_c a1 a2 _ _ fs rs n _ (H.out _ U1.out).1 (H.out _ U1.out).2 hl1 hl2 t2 t4 t1.2 t3.2).mono ?_
    rintro e w2 ⟨v, rfl, hg, u1⟩
    replace B0 := Lib.hid (B0.out.kept u1 (by simp))
    have U2 := Lib.hid (U1.out.then0 u1)
    have HS12 : Hid (w.heap.size ≤ w1.heap.size) := U1.out.size
    have HG := Lib.hid hg
    clear hg u1 U1 hb0 hb1 hb2
    generalize orderF fs rs = P at HOF HN HG
    obtain ⟨pa, pc, ev⟩ := HG.out.form
    subst ev
    have hP1 : 1 ≤ P.length := HOF.out.1
    have hP2 : P.length ≤ 36 := HOF.out.2.1
    have HIn := Lib.hid HOF.out.2.2.1
    clear HOF
    obtain ⟨b3, o3, ev⟩ := ints_some (H.out _ U2.out).1 (by omega)
    subst ev
    obtain ⟨b4, o4, ev⟩ := ints_some (H.out _ U2.out).2 (by omega)
    subst ev
    have HO : Hid (EG w2 (w2.alloc (.cells #[] 24)) (.slice (some ⟨w2.heap.size, 0, none⟩) 0 0) (eqN fs rs P 0)) := ⟨[], OwnV.lit (Upd.refl w2), rfl, fun x hx => by simp at hx⟩
    have V2 := Lib.hid ((Upd.refl w2).alloc (.cells #[] 24))
    go_wp2_with fail
    go_loopw [5, 6] (fun v i wr => ∃ k : Nat, k + 1 ≤ P.length ∧ i = .int .i64 ((k + 1 : Nat) : Int) ∧ Hid (EG w2 wr v (eqN fs rs P k)) ∧ Hid (Upd [] w2 wr)) (fun _ i _ => P.length - (intOf i).toNat)
    case atStart => exact ⟨0, by omega, rfl, HO, V2⟩
    case round =>
      clear HO V2
      obtain ⟨k, hk, rfl, HO, V3⟩ := hrel
      obtain ⟨w3, ew3⟩ : ∃ x : World, x = wr := ⟨_, rfl⟩
      subst ew3
      have U3 := Lib.hid (U2.out.then0 V3.out)
      have B3 := Lib.hid (B0.out.kept V3.out (by simp))
      by_cases hlt : k + 1 < P.length
      · skip
        obtain ⟨a, ea⟩ : ∃ a, pAt P k = a := ⟨_, rfl⟩
        obtain ⟨b, eb⟩ : ∃ b, pAt P (k + 1) = b := ⟨_, rfl⟩
        have ga := pAt_get (P := P) (k := k) (by omega)
        have gb := pAt_get hlt
        rw [ea] at ga
        rw [eb] at gb
        have ina := HIn.out a (mem_of_get ga)
        have inb := HIn.out b (mem_of_get gb)
        obtain ⟨ob, oc, gx, ev, hca, HA⟩ := HG.out.get ga
        cases ev
        obtain ⟨gy, hcb, HB⟩ := HG.out.cell gb
        replace hca := V3.out.cell hca (by simp)
        replace hcb := V3.out.cell hcb (by simp)
        have HEa := Lib.hid ea
        have HEb := Lib.hid eb
        clear ea eb ga gb
        have HOl := Lib.hid (eqN_le fs rs P k)
        have HCb : Hid (w2.cell? ⟨ob, k + 1, none⟩ = some (.slice (some ⟨gy, 0, none⟩) 2 2)) := by
          obtain ⟨gy2, hcb2, -⟩ := HG.out.cell (pAt_get hlt)
          have h1 := V3.out.cell hcb2 (by simp)
          rw [hcb] at h1
          simp only [Option.some.injEq] at h1
          rw [h1]; exact hcb2
        obtain ⟨hb0, hb1, hb2⟩ := B3.out.cells
        have i1 : (0 : Int) ≤ ((k + 1 : Nat) : Int) - 1 := by omega
        have i2 : ((k + 1 : Nat) : Int) - 1 < (P.length : Int) := by omega
        have i3 : (0 : Int) ≤ ((k + 1 : Nat) : Int) := by omega
        have i4 : ((k + 1 : Nat) : Int) < (P.length : Int) := by omega
        have i5 : (((k + 1 : Nat) : Int) - 1).toNat = k := by omega
        have i6 : (0 : Int) ≤ (k : Int) := by omega
        have i7 : (k : Int) < (P.length : Int) := by omega
        have hw1 : IntKind.i64.wrap (((k + 1 : Nat) : Int) - 1) = ((k + 1 : Nat) : Int) - 1 := IntWalk.i64_in _ (by omega)
        have hw2 : IntKind.i64.wrap ((k : Int) + 1 - 1) = (k : Int) := by rw [show (k : Int) + 1 - 1 = k by omega]; exact IntWalk.i64_in _ (by omega)
        have i8 : (1 : Int) ≤ ((k + 1 : Nat) : Int) := by omega
        have hw3 : IntKind.i64.wrap (k : Int) = (k : Int) := IntWalk.i64_in _ (by omega)
        have i9 : (0 : Int) ≤ (k : Int) + 1 := by omega
        have i10 : (k : Int) + 1 < (P.length : Int) := by omega
        have i11 : ((k : Int) + 1).toNat = k + 1 := by omega
        obtain ⟨s, hs⟩ : ∃ s, sgnI (cmpG fs rs a b) = s := ⟨_, rfl⟩
        have HSs := Lib.hid hs
        clear hs
        go_wp2_with fail
        refine wp_region_still_tail 10 (by kernel_rfl) (by kernel_rfl) ?_
        simp only [List.take_succ_cons, List.take_zero, List.drop_succ_cons, List.drop_zero]
        repeat still_step
        refine wpStill_nil ?_
        clear i1 i2 i3 i4 i5 i6 i7 i8 i9 i10 i11 hw1 hw2 hw3 hca hcb hb0 hb1 hb2
        change wpList _ _ _ _ _ w3.drew
        replace HO := Lib.hid (HO.out.kept0 (Upd.refl w3).drew)
        replace V3 := Lib.hid (V3.out.drew)
        replace U3 := Lib.hid (U3.out.drew)
        clear B3
        generalize w3.drew = w4 at HO V3 U3 ⊢
        go_wp2_with fail
        refine (l09Compare_c _ _ _ _ fs rs n _ (H.out _ U3.out).1 (H.out _ U3.out).2 hl1 hl2 _ _ _ _ a.1 a.2 b.1 b.2 s HSs.out (HA.out.kept0 V3.out) (HB.out.kept0 V3.out) ina.1 ina.2 inb.1 inb.2 t2 t4).mono ?_
        rintro e w5 ⟨rfl, u1⟩
        replace HO := Lib.hid (HO.out.kept0 u1)
        replace V3 := Lib.hid (V3.out.then0 u1)
        replace U3 := Lib.hid (U3.out.then0 u1)
        clear u1
        by_cases hz : cmpG fs rs a b = 0
        · have hs0 : s = 0 := by rw [← HSs.out]; exact sgnI_zero hz
          have HNx : Hid (eqN fs rs P (k + 1) = eqN fs rs P k ++ [b]) := by show _ = _; rw [eqN, HEa.out, HEb.out, if_pos hz]
          clear HSs
          subst hs0
          have hcb := V3.out.cell HCb.out (by simp)
          have i3 : (0 : Int) ≤ ((k + 1 : Nat) : Int) := by omega
          have i4 : ((k + 1 : Nat) : Int) < (P.length : Int) := by omega
          obtain ⟨G, hov, hG, hGi⟩ := HO.out
          have HLl : Hid (G.length ≤ 36) := by
            have := congrArg List.length hG
            simp at this
            have := HOl.out
            show _ ≤ _; omega
          have HR := Lib.hid (show _ ∧ _ ∧ _ from ⟨hov, hG, hGi⟩)
          clear hov hG hGi HO
          go_wp2_with (at_builtin; refine wpList_appV rfl _ _ rfl _ _ (some ⟨gy, 0, none⟩) 2 2 rfl rfl HR.out.1 V3.out (by have := HLl.out; simp; omega) ?_; intro v' w7 z1 z2 z3; have Z1 := Lib.hid z1; have Z3 := Lib.hid z3; clear z1 z2 z3)
          have HOn : Hid (EG w2 w7 v' (eqN fs rs P (k + 1))) := by
            refine ⟨G ++ [(gy, b)], ?_, ?_, ?_⟩
            · have := Z1.out
              rw [List.map_append]; exact this
            · rw [HNx.out, List.map_append, HR.out.2.1]; rfl
            · intro x hx
              rcases List.mem_append.1 hx with hx | hx
              · exact HR.out.2.2 x hx
              · rw [List.mem_singleton.1 hx]; exact HB.out
          clear hcb
          go_roundw
          case rel => exact ⟨k + 1, by omega, by go_num, HOn, Z3⟩
          case measure => simp [intOf]; omega
        · have hs0 : ¬ s = 0 := by rw [← HSs.out]; exact sgnI_eq hz
          have HNx : Hid (eqN fs rs P (k + 1) = eqN fs rs P k) := by show _ = _; rw [eqN, HEa.out, HEb.out, if_neg hz]
          clear HSs
          go_wp2_with fail
          go_roundw
          case rel => exact ⟨k + 1, by omega, by go_num, by rw [HNx.out]; exact HO, V3⟩
          case measure => simp [intOf]; omega
      · obtain rfl : k = P.length - 1 := by omega
        go_wp2_with fail
        go_ret2
        rw [HN.out.1, HN.out.2]
        obtain ⟨a, c, ev, hr⟩ := HO.out.read V3.out
        exact ⟨a, c, by rw [← ev]; rfl, hr, U3.out⟩
end Go.Proofs.Ytjnkckpebfafjaa
