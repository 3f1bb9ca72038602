/- The draws of chapter 8: from the code. -/
import Derived.Test.YtiiljmaianfdeaaDraw8
namespace Go.Proofs.Ytiiljmaianfdeaa
open Go.RowKit
set_option linter.unusedVariables false
set_option linter.unusedSimpArgs false

def DrawLL8 (w : World) (e : Ending) (w' : World) : Prop :=
  ∃ p xs d q ys f, e = .returned (.tuple #[.slice p xs.length d, .slice q ys.length f]) ∧ IntsAt w' p xs ∧ IntsAt w' q ys ∧ (xs.length ≤ 13 ∧ ys.length ≤ 4) ∧ Upd [] w w'
def DrawLLi8 (w : World) (e : Ending) (w' : World) : Prop :=
  ∃ p xs d q ys f t, e = .returned (.tuple #[.slice p xs.length d, .slice q ys.length f, .int .i64 t]) ∧ IntsAt w' p xs ∧ IntsAt w' q ys ∧ (xs.length ≤ 13 ∧ ys.length ≤ 4) ∧ Upd [] w w'
def DrawLLL8 (w : World) (e : Ending) (w' : World) : Prop :=
  ∃ p xs d q ys f r zs h, e = .returned (.tuple #[.slice p xs.length d, .slice q ys.length f, .slice r zs.length h]) ∧ IntsAt w' p xs ∧ IntsAt w' q ys ∧ IntsAt w' r zs ∧ (xs.length ≤ 13 ∧ ys.length ≤ 4 ∧ zs.length ≤ 14) ∧ (∀ ad, r = some ad → w.heap.size ≤ ad.block) ∧ Upd [] w w'
def DrawL8 (w : World) (e : Ending) (w' : World) : Prop :=
  ∃ p xs d, e = .returned (.slice p xs.length d) ∧ IntsAt w' p xs ∧ xs.length ≤ 14 ∧ Upd [] w w'
set_option maxRecDepth 20000 in
set_option maxHeartbeats 1600000 in
theorem DrawBestTurn_c (a : Option Addr) (c : Nat) (bs : List Int) (w : World) (hc : U8At w a bs) (hl : bs.length ≤ 4096) : Calls Try.prog 35 #[.slice a bs.length c] w (DrawLL8 w) := by
  have HC := Lib.hid hc
  clear hc
  go_enter Try.func35, Try.ntmps35
  go_wp2_with fail
  refine (l01From_c a c bs _ HC.out hl).mono ?_
  rintro e wn ⟨g, rfl, hg, hd, hu⟩
  have D := Lib.hid hd
  have UF := Lib.hid hu
  obtain ⟨w1, ew1⟩ : ∃ x : World, x = wn := ⟨_, rfl⟩
  subst ew1
  have U : Hid (Upd [g] w1 w1) := (Upd.refl w1).mono (by simp)
  have HgB : Hid (∀ k, k ∈ [g] → k < w1.heap.size) := fun k hk => by rw [List.mem_singleton.1 hk]; exact hd.lt
  have HgF : Hid (∀ k, k ∈ [g] → w.heap.size ≤ k) := fun k hk => by rw [List.mem_singleton.1 hk]; exact hg
  clear hd hu
  go_wp2_with fail
  refine (l08Effect_c g a c bs _ D.out).mono ?_
  rintro e wn ⟨v, es, rfl, ho, les, hd, hu⟩
  replace D := Lib.hid hd
  have OE := Lib.hid (ho.mono U.out.size)
  replace U := Lib.hid (U.out.then1 hu)
  obtain ⟨pv, dv, ev⟩ := ho.form
  subst ev
  clear ho hd hu
  go_wp2_with fail
  refine (l08Draw_c g a c bs _ _ es _ D.out OE.out.ints (fun ad e => by have := OE.out.low ad.block (by rw [e]; rfl); have := HgB.out g (by simp); omega) (by omega)).mono ?_
  rintro e wn ⟨u, xs, rfl, ho, lxs, hd, hu⟩
  replace D := Lib.hid hd
  have OX := Lib.hid (ho.mono U.out.size)
  replace OE := Lib.hid (OE.out.kept hu HgB.out)
  replace U := Lib.hid (U.out.then1 hu)
  obtain ⟨pu, du, ev⟩ := ho.form
  subst ev
  clear ho hd hu
  go_wp2_with fail
  go_ret2
  exact ⟨_, xs, _, _, es, _, rfl, OX.out.ints, OE.out.ints, by omega, UF.out.after0 U.out HgF.out⟩
set_option maxRecDepth 20000 in
set_option maxHeartbeats 1600000 in
theorem DrawLeastPlan_c (a : Option Addr) (c : Nat) (bs : List Int) (w : World) (hc : U8At w a bs) (hl : bs.length ≤ 4096) : Calls Try.prog 23 #[.slice a bs.length c] w (DrawLLi8 w) := by
  have HC := Lib.hid hc
  clear hc
  go_enter Try.func23, Try.ntmps23
  go_wp2_with fail
  refine (l01From_c a c bs _ HC.out hl).mono ?_
  rintro e wn ⟨g, rfl, hg, hd, hu⟩
  have D := Lib.hid hd
  have UF := Lib.hid hu
  obtain ⟨w1, ew1⟩ : ∃ x : World, x = wn := ⟨_, rfl⟩
  subst ew1
  have U : Hid (Upd [g] w1 w1) := (Upd.refl w1).mono (by simp)
  have HgB : Hid (∀ k, k ∈ [g] → k < w1.heap.size) := fun k hk => by rw [List.mem_singleton.1 hk]; exact hd.lt
  have HgF : Hid (∀ k, k ∈ [g] → w.heap.size ≤ k) := fun k hk => by rw [List.mem_singleton.1 hk]; exact hg
  clear hd hu
  go_wp2_with fail
  refine (l08Effect_c g a c bs _ D.out).mono ?_
  rintro e wn ⟨v, es, rfl, ho, les, hd, hu⟩
  replace D := Lib.hid hd
  have OE := Lib.hid (ho.mono U.out.size)
  replace U := Lib.hid (U.out.then1 hu)
  obtain ⟨pv, dv, ev⟩ := ho.form
  subst ev
  clear ho hd hu
  go_wp2_with fail
  refine (l08Draw_c g a c bs _ _ es _ D.out OE.out.ints (fun ad e => by have := OE.out.low ad.block (by rw [e]; rfl); have := HgB.out g (by simp); omega) (by omega)).mono ?_
  rintro e wn ⟨u, xs, rfl, ho, lxs, hd, hu⟩
  replace D := Lib.hid hd
  have OX := Lib.hid (ho.mono U.out.size)
  replace OE := Lib.hid (OE.out.kept hu HgB.out)
  replace U := Lib.hid (U.out.then1 hu)
  obtain ⟨pu, du, ev⟩ := ho.form
  subst ev
  clear ho hd hu
  by_cases h8 : (8 : Int) < (xs.length : Int)
  · go_wp2_with fail
    go_ret3
    exact ⟨_, xs, _, _, es, _, 501, rfl, OX.out.ints, OE.out.ints, by omega, UF.out.after0 U.out HgF.out⟩
  · go_wp2_with fail
    refine (l01Pick_c g a c bs _ _ [2, 3, 1, 4, 0, 500, 501] _ (D.out.kept0 ((Upd.refl _).alloc _)) (lit_ints _ [2, 3, 1, 4, 0, 500, 501]) (fun ad e => by cases e; exact D.out.lt) (by simp) (by simp)).mono ?_
    rintro e wn ⟨t, rfl, ht, hd, hu⟩
    replace D := Lib.hid hd
    replace U := Lib.hid ((U.out.alloc _).then1 hu)
    replace OX := Lib.hid ((OX.out.kept0 ((Upd.refl _).alloc _)).kept hu HgB.out)
    replace OE := Lib.hid ((OE.out.kept0 ((Upd.refl _).alloc _)).kept hu HgB.out)
    clear hd hu
    go_wp2_with fail
    go_ret3
    exact ⟨_, xs, _, _, es, _, t, rfl, OX.out.ints, OE.out.ints, by omega, UF.out.after0 U.out HgF.out⟩
set_option maxRecDepth 20000 in
set_option maxHeartbeats 1600000 in
theorem DrawTrueByTurns_c (a : Option Addr) (c : Nat) (bs : List Int) (w : World) (hc : U8At w a bs) (hl : bs.length ≤ 4096) : Calls Try.prog 38 #[.slice a bs.length c] w (DrawLLi8 w) := by
  have HC := Lib.hid hc
  clear hc
  go_enter Try.func38, Try.ntmps38
  go_wp2_with fail
  refine (l01From_c a c bs _ HC.out hl).mono ?_
  rintro e wn ⟨g, rfl, hg, hd, hu⟩
  have D := Lib.hid hd
  have UF := Lib.hid hu
  obtain ⟨w1, ew1⟩ : ∃ x : World, x = wn := ⟨_, rfl⟩
  subst ew1
  have U : Hid (Upd [g] w1 w1) := (Upd.refl w1).mono (by simp)
  have HgB : Hid (∀ k, k ∈ [g] → k < w1.heap.size) := fun k hk => by rw [List.mem_singleton.1 hk]; exact hd.lt
  have HgF : Hid (∀ k, k ∈ [g] → w.heap.size ≤ k) := fun k hk => by rw [List.mem_singleton.1 hk]; exact hg
  clear hd hu
  go_wp2_with fail
  refine (l01Next_c g a c bs _ _ D.out).mono ?_
  rintro e wn ⟨z, rfl, hz, hd, hu⟩
  replace D := Lib.hid hd
  replace U := Lib.hid (U.out.then1 hu)
  clear hd hu
  by_cases z0 : z = 0
  · subst z0
    go_wp2_with fail
    refine (l01Next_c g a c bs _ _ D.out).mono ?_
    rintro e wn ⟨x, rfl, hx, hd, hu⟩
    replace D := Lib.hid hd
    replace U := Lib.hid (U.out.then1 hu)
    clear hd hu
    have hw1 : IntKind.i64.wrap (490 + x) = 490 + x := IntWalk.i64_in _ (by omega)
    have I1 : Hid (IntsAt (wn.alloc (.cells #[.int .i64 (-500), .int .i64 (-500), .int .i64 (490 + x), .int .i64 (-500), .int .i64 (-500)] 2)) (some ⟨wn.heap.size, 0, none⟩) [-500, -500, 490 + x, -500, -500]) := lit_ints wn [-500, -500, 490 + x, -500, -500]
    obtain ⟨wa, ewa⟩ : ∃ W : World, W = wn.alloc (.cells #[.int .i64 (-500), .int .i64 (-500), .int .i64 (490 + x), .int .i64 (-500), .int .i64 (-500)] 2) := ⟨_, rfl⟩
    have I2 : Hid (IntsAt (wa.alloc (.cells #[.int .i64 20, .int .i64 20, .int .i64 20] 2)) (some ⟨wa.heap.size, 0, none⟩) [20, 20, 20]) := lit_ints wa [20, 20, 20]
    have hlt : g < wn.heap.size := D.out.lt
    replace D := Lib.hid ((D.out.kept0 ((Upd.refl wn).alloc (.cells #[.int .i64 (-500), .int .i64 (-500), .int .i64 (490 + x), .int .i64 (-500), .int .i64 (-500)] 2))))
    replace U := Lib.hid ((U.out.alloc (.cells #[.int .i64 (-500), .int .i64 (-500), .int .i64 (490 + x), .int .i64 (-500), .int .i64 (-500)] 2)))
    have hsz : wa.heap.size = wn.heap.size + 1 := by rw [ewa]; simp
    obtain ⟨k0, hk0⟩ : ∃ k, wn.heap.size = k := ⟨_, rfl⟩
    rw [hk0] at hsz hlt
    rw [← ewa] at D U I1
    rw [hsz] at I2
    replace I1 := Lib.hid (I1.out.kept0 ((Upd.refl wa).alloc (.cells #[.int .i64 20, .int .i64 20, .int .i64 20] 2)))
    replace D := Lib.hid ((D.out.kept0 ((Upd.refl wa).alloc (.cells #[.int .i64 20, .int .i64 20, .int .i64 20] 2))))
    replace U := Lib.hid ((U.out.alloc (.cells #[.int .i64 20, .int .i64 20, .int .i64 20] 2)))
    go_wp2_with fail
    rw [← ewa]
    rw [hk0] at I1
    clear hk0 ewa hsz
    generalize wa.alloc (.cells #[.int .i64 20, .int .i64 20, .int .i64 20] 2) = wb at D U I1 I2 ⊢
    refine (l01Next_c g a c bs _ _ D.out).mono ?_
    rintro e wd ⟨y, rfl, hy, hd, hu⟩
    have J1 := Lib.hid (I1.out.kept hu (fun ad e => by cases e; simp; omega))
    have J2 := Lib.hid (I2.out.kept hu (fun ad e => by cases e; simp; omega))
    replace U := Lib.hid (U.out.then1 hu)
    clear hu hd D I1 I2
    go_wp2_with fail
    go_ret3
    exact ⟨_, [-500, -500, 490 + x, -500, -500], _, _, [20, 20, 20], _, _, rfl, J1.out, J2.out, by simp, UF.out.after0 U.out HgF.out⟩
  · go_wp2_with fail
    refine (l08Effect_c g a c bs _ D.out).mono ?_
    rintro e wn ⟨v, es, rfl, ho, les, hd, hu⟩
    replace D := Lib.hid hd
    have OE := Lib.hid (ho.mono U.out.size)
    replace U := Lib.hid (U.out.then1 hu)
    obtain ⟨pv, dv, ev⟩ := ho.form
    subst ev
    clear ho hd hu
    go_wp2_with fail
    refine (l08Draw_c g a c bs _ _ es _ D.out OE.out.ints (fun ad e => by have := OE.out.low ad.block (by rw [e]; rfl); have := HgB.out g (by simp); omega) (by omega)).mono ?_
    rintro e wn ⟨u, xs, rfl, ho, lxs, hd, hu⟩
    replace D := Lib.hid hd
    have OX := Lib.hid (ho.mono U.out.size)
    replace OE := Lib.hid (OE.out.kept hu HgB.out)
    replace U := Lib.hid (U.out.then1 hu)
    obtain ⟨pu, du, ev⟩ := ho.form
    subst ev
    clear ho hd hu
    go_wp2_with fail
    refine (l01Next_c g a c bs _ _ D.out).mono ?_
    rintro e wn ⟨x, rfl, hx, hd, hu⟩
    replace D := Lib.hid hd
    replace U := Lib.hid (U.out.then1 hu)
    replace OX := Lib.hid (OX.out.kept hu HgB.out)
    replace OE := Lib.hid (OE.out.kept hu HgB.out)
    clear hd hu
    go_wp2_with fail
    refine (l01Pick_c g a c bs _ _ [x, 0, 40, 41, -1] _ (D.out.kept0 ((Upd.refl _).alloc _)) (lit_ints _ [x, 0, 40, 41, -1]) (fun ad e => by cases e; exact D.out.lt) (by simp) (by simp)).mono ?_
    rintro e wn ⟨t, rfl, ht, hd, hu⟩
    replace D := Lib.hid hd
    replace U := Lib.hid ((U.out.alloc _).then1 hu)
    replace OX := Lib.hid ((OX.out.kept0 ((Upd.refl _).alloc _)).kept hu HgB.out)
    replace OE := Lib.hid ((OE.out.kept0 ((Upd.refl _).alloc _)).kept hu HgB.out)
    clear hd hu
    go_wp2_with fail
    go_ret3
    exact ⟨_, xs, _, _, es, _, t, rfl, OX.out.ints, OE.out.ints, by omega, UF.out.after0 U.out HgF.out⟩
set_option maxRecDepth 20000 in
set_option maxHeartbeats 3200000 in
theorem DrawAfterPlan_c (a : Option Addr) (c : Nat) (bs : List Int) (w : World) (hc : U8At w a bs) (hl : bs.length ≤ 4096) : Calls Try.prog 26 #[.slice a bs.length c] w (DrawLLL8 w) := by
  have HC := Lib.hid hc
  clear hc
  go_enter Try.func26, Try.ntmps26
  go_wp2_with fail
  refine (l01From_c a c bs _ HC.out hl).mono ?_
  rintro e wn ⟨g, rfl, hg, hd, hu⟩
  have D := Lib.hid hd
  have UF := Lib.hid hu
  obtain ⟨w1, ew1⟩ : ∃ x : World, x = wn := ⟨_, rfl⟩
  subst ew1
  have U : Hid (Upd [g] w1 w1) := (Upd.refl w1).mono (by simp)
  have HgB : Hid (∀ k, k ∈ [g] → k < w1.heap.size) := fun k hk => by rw [List.mem_singleton.1 hk]; exact hd.lt
  have HgF : Hid (∀ k, k ∈ [g] → w.heap.size ≤ k) := fun k hk => by rw [List.mem_singleton.1 hk]; exact hg
  clear hd hu
  go_wp2_with fail
  refine (l08Effect_c g a c bs _ D.out).mono ?_
  rintro e wn ⟨v, es, rfl, ho, les, hd, hu⟩
  replace D := Lib.hid hd
  have OE := Lib.hid (ho.mono U.out.size)
  replace U := Lib.hid (U.out.then1 hu)
  obtain ⟨pv, dv, ev⟩ := ho.form
  subst ev
  clear ho hd hu
  go_wp2_with fail
  refine (l08Draw_c g a c bs _ _ es _ D.out OE.out.ints (fun ad e => by have := OE.out.low ad.block (by rw [e]; rfl); have := HgB.out g (by simp); omega) (by omega)).mono ?_
  rintro e wn ⟨u, xs, rfl, ho, lxs, hd, hu⟩
  replace D := Lib.hid hd
  have OX := Lib.hid (ho.mono U.out.size)
  replace OE := Lib.hid (OE.out.kept hu HgB.out)
  replace U := Lib.hid (U.out.then1 hu)
  obtain ⟨pu, du, ev⟩ := ho.form
  subst ev
  clear ho hd hu
  obtain ⟨w4, ew4⟩ : ∃ x : World, x = wn := ⟨_, rfl⟩
  subst ew4
  have HX : Hid (∀ w', Upd [g] w4 w' → IntsAt w' pu xs ∧ IntsAt w' pv es) := fun w' u =>
    ⟨OX.out.ints.kept u (fun ad e => by have := OX.out.low ad.block (by rw [e]; rfl); have := HgB.out g (by simp); simp; omega), OE.out.ints.kept u (fun ad e => by have := OE.out.low ad.block (by rw [e]; rfl); have := HgB.out g (by simp); simp; omega)⟩
  have UA := Lib.hid (UF.out.after0 U.out HgF.out)
  have HgF2 : Hid (∀ k, k ∈ [g] → w.heap.size ≤ k) := HgF
  replace HgB : Hid (∀ k, k ∈ [g] → k < w4.heap.size) := fun k hk => Nat.lt_of_lt_of_le (HgB.out k hk) U.out.size
  clear OX OE UF U
  have D4 := Lib.hid (D.out.kept0 ((Upd.refl w4).alloc (.cells #[] 2)))
  have U4 : Hid (Upd [g] w4 (w4.alloc (.cells #[] 2))) := ((Upd.refl w4).mono (by simp)).alloc _
  have OP : Hid (∃ zs, OwnI (w4.alloc (.cells #[] 2)) w4.heap.size (.slice (some ⟨w4.heap.size, 0, none⟩) 0 0) zs ∧ zs.length = 0) := ⟨[], lit_own (Nat.le_refl _) [] (by simp), rfl⟩
  clear D
  have HLX := Lib.hid lxs
  obtain ⟨N, hN⟩ : ∃ N, xs.length = N := ⟨_, rfl⟩
  have HNN := Lib.hid hN
  rw [hN] at HLX ⊢
  clear hN lxs
  have hNb := HLX.out
  go_wp2_with fail
  go_loopw [8, 9] (fun v i wr => ∃ k : Nat, k ≤ N ∧ i = .int .i64 k ∧ Hid (∃ zs, OwnI wr w4.heap.size v zs ∧ zs.length = k) ∧ Hid (DC wr g a c bs) ∧ Hid (Upd [g] w4 wr)) (fun _ i _ => N - (intOf i).toNat)
  case atStart => exact ⟨0, by omega, rfl, OP, D4, U4⟩
  case round =>
    clear OP D4 U4
    obtain ⟨k, hk, rfl, OP, D, U⟩ := hrel
    obtain ⟨zs, q1, q2⟩ := OP.out
    have O := Lib.hid q1
    have HZ := Lib.hid q2
    clear OP q1 q2
    by_cases hlt : k < N
    · go_wp2_with fail
      refine (l01Next_c g a c bs _ _ D.out).mono ?_
      rintro e wn ⟨x, rfl, hx, hd, hu⟩
      replace D := Lib.hid hd
      replace U := Lib.hid (U.out.then1 hu)
      replace O := Lib.hid (O.out.kept hu HgB.out)
      clear hd hu
      have hw1 : IntKind.i64.wrap (x - 2) = x - 2 := IntWalk.i64_in _ (by omega)
      go_wp2_with fail
      refine (l01Pick_c g a c bs _ _ [0, 0, x - 2] _ (D.out.kept0 ((Upd.refl _).alloc _)) (lit_ints _ [0, 0, x - 2]) (fun ad e => by cases e; exact D.out.lt) (by simp) (by simp)).mono ?_
      rintro e wn ⟨y, rfl, hy, hd, hu⟩
      replace D := Lib.hid hd
      replace U := Lib.hid ((U.out.alloc _).then1 hu)
      replace O := Lib.hid ((O.out.kept0 ((Upd.refl _).alloc _)).kept hu HgB.out)
      clear hd hu
      go_wp2_with (at_builtin; refine wpList_appB rfl _ _ rfl _ _ _ rfl rfl O.out U.out.size (by (have := HZ.out; omega)) ?_; intro v' w9 z1 z2; have Z1 := Lib.hid z1; have DZ := Lib.hid (D.out.kept z2 (fun k hk => by have := (O.out.low k (Option.mem_toList.1 hk)); have := HgB.out g (by simp); omega)); have UZ := Lib.hid (U.out.afterB z2 (fun k hk => O.out.low k (Option.mem_toList.1 hk))); clear z1 z2)
      have HZ2 : Hid (∃ zs, OwnI w9 w4.heap.size v' zs ∧ zs.length = k + 1) := ⟨_, Z1.out, by have := HZ.out; simp; omega⟩
      go_roundw
      case rel => exact ⟨k + 1, by omega, by go_num, HZ2, DZ, UZ⟩
      case measure => simp [intOf]; omega
    · obtain rfl : k = N := by omega
      have hzl : zs.length = k := HZ.out
      clear HZ HLX
      go_wp2_with fail
      refine (l01Next_c g a c bs _ _ D.out).mono ?_
      rintro e wn ⟨z, rfl, hz, hd, hu⟩
      replace D := Lib.hid hd
      replace U := Lib.hid (U.out.then1 hu)
      replace O := Lib.hid (O.out.kept hu HgB.out)
      clear hd hu
      by_cases z0 : z = 0
      · subst z0
        go_wp2_with (at_builtin; refine wpList_appB rfl _ _ rfl _ _ _ rfl rfl O.out U.out.size (by omega) ?_; intro v' w9 z1 z2; have Z1 := Lib.hid z1; have DZ := Lib.hid (D.out.kept z2 (fun k hk => by have := (O.out.low k (Option.mem_toList.1 hk)); have := HgB.out g (by simp); omega)); have UZ := Lib.hid (U.out.afterB z2 (fun k hk => O.out.low k (Option.mem_toList.1 hk))); clear z1 z2)
        obtain ⟨p9, d9, ev⟩ := Z1.out.form
        subst ev
        have hx := HX.out _ UZ.out
        have hxl : xs.length = k := HNN.out
        go_ret3
        exact ⟨pu, xs, du, pv, es, dv, p9, zs ++ [0], d9, by simp [hxl], hx.1, hx.2, Z1.out.ints, by simp; omega, fun ad e => by have := Z1.out.low ad.block (by rw [e]; rfl); have := UA.out.size; omega, UA.out.after0 UZ.out HgF2.out⟩
      · by_cases z1 : z = 1
        · subst z1
          obtain ⟨ob, oc, ev, hob, hob2⟩ := O.out.row (by omega)
          subst ev
          go_wp2_with fail
          refine (l01Pick_c g a c bs _ _ [-101, -100, 100, 101] _ (D.out.kept0 ((Upd.refl _).alloc _)) (lit_ints _ [-101, -100, 100, 101]) (fun ad e => by cases e; exact D.out.lt) (by simp) (by simp)).mono ?_
          rintro e wn ⟨y, rfl, hy, hd, hu⟩
          replace D := Lib.hid hd
          replace U := Lib.hid ((U.out.alloc _).then1 hu)
          replace O := Lib.hid ((O.out.kept0 ((Upd.refl _).alloc _)).kept hu HgB.out)
          clear hd hu
          have hc := O.out.cell (k := 0) (List.getElem?_eq_getElem (by omega))
          have hf := O.out.free 0
          have O3 := Lib.hid (O.out.set 0 y (by omega))
          have V : Upd [ob] wn (wn.setCell ⟨ob, 0, none⟩ (.int .i64 y)) := ((Upd.refl wn).mono (by simp)).setCell _ (.inl (by simp))
          have U3 := Lib.hid (U.out.afterB V (fun k hk => by rw [List.mem_singleton.1 hk]; exact hob))
          clear V
          go_wp2_with fail
          have hx := HX.out _ U3.out
          have hxl : xs.length = k := HNN.out
          have hi3 := O3.out.ints
          go_ret3
          exact ⟨pu, xs, du, pv, es, dv, some ⟨ob, 0, none⟩, zs.set 0 y, oc, by simp [hxl, hzl], hx.1, hx.2, hi3, by simp; omega, fun ad e => by have := O3.out.low ad.block (by rw [e]; rfl); have := UA.out.size; omega, UA.out.after0 U3.out HgF2.out⟩
        · obtain ⟨p9, d9, ev⟩ := O.out.form
          subst ev
          go_wp2_with fail
          have hx := HX.out _ U.out
          have hxl : xs.length = k := HNN.out
          go_ret3
          exact ⟨pu, xs, du, pv, es, dv, p9, zs, d9, by simp [hxl, hzl], hx.1, hx.2, O.out.ints, by omega, fun ad e => by have := O.out.low ad.block (by rw [e]; rfl); have := UA.out.size; omega, UA.out.after0 U.out HgF2.out⟩
set_option maxRecDepth 20000 in
set_option maxHeartbeats 1600000 in
theorem DrawUndoPlan_c (a : Option Addr) (c : Nat) (bs : List Int) (w : World) (hc : U8At w a bs) (hl : bs.length ≤ 4096) : Calls Try.prog 29 #[.slice a bs.length c] w (DrawL8 w) := by
  have HC := Lib.hid hc
  clear hc
  go_enter Try.func29, Try.ntmps29
  go_wp2_with fail
  refine (l01From_c a c bs _ HC.out hl).mono ?_
  rintro e wn ⟨g, rfl, hg, hd, hu⟩
  have D := Lib.hid hd
  have UF := Lib.hid hu
  obtain ⟨w1, ew1⟩ : ∃ x : World, x = wn := ⟨_, rfl⟩
  subst ew1
  have U : Hid (Upd [g] w1 w1) := (Upd.refl w1).mono (by simp)
  have HgB : Hid (∀ k, k ∈ [g] → k < w1.heap.size) := fun k hk => by rw [List.mem_singleton.1 hk]; exact hd.lt
  have HgF : Hid (∀ k, k ∈ [g] → w.heap.size ≤ k) := fun k hk => by rw [List.mem_singleton.1 hk]; exact hg
  clear hd hu
  have HC1 := Lib.hid (HC.out.kept0 UF.out)
  go_wp2_with fail
  refine (DrawAfterPlan_c a c bs _ HC1.out hl).mono ?_
  rintro e w4 ⟨p, xs, d, q, ys, f, r, zs, h, rfl, i1, i2, i3, lz, hr, hu⟩
  have HX : Hid (∀ w', Upd [g] w4 w' → IntsAt w' r zs) := fun w' u => i3.kept u (fun ad e => by have := hr ad e; have := HgB.out g (by simp); simp; omega)
  replace D := Lib.hid (D.out.kept0 hu)
  have U2 : Hid (Upd [g] w4 w4) := (Upd.refl w4).mono (by simp)
  have UA := Lib.hid (UF.out.then0 hu)
  replace HgB : Hid (∀ k, k ∈ [g] → k < w4.heap.size) := fun k hk => Nat.lt_of_lt_of_le (HgB.out k hk) hu.size
  clear i1 i2 i3 hu hr U UF
  have U := U2
  clear U2
  go_wp2_with fail
  refine (l01Next_c g a c bs _ _ D.out).mono ?_
  rintro e wn ⟨z, rfl, hz, hd, hu⟩
  replace D := Lib.hid hd
  replace U := Lib.hid (U.out.then1 hu)
  clear hd hu
  by_cases z0 : z = 0
  · subst z0
    clear HX
    go_wp2_with fail
    refine (l01Next_c g a c bs _ _ D.out).mono ?_
    rintro e wn ⟨x, rfl, hx, hd, hu⟩
    replace D := Lib.hid hd
    replace U := Lib.hid (U.out.then1 hu)
    clear hd hu
    obtain rfl | rfl : x = 0 ∨ x = 1 := by omega
    · go_wp2_with (at_make; refine wpList_mkI rfl _ _ rfl .i64 .i64 10 rfl rfl (by omega) (Upd.refl _) ?_; intro w9 h1 h2 h3; have O := Lib.hid h1; replace U := Lib.hid (U.out.then0 h2); clear h1 h2 h3)
      go_ret
      exact ⟨_, List.replicate 10 0, _, rfl, O.out.ints, by simp, UA.out.after0 U.out HgF.out⟩
    · go_wp2_with (at_make; refine wpList_mkI rfl _ _ rfl .i64 .i64 11 rfl rfl (by omega) (Upd.refl _) ?_; intro w9 h1 h2 h3; have O := Lib.hid h1; replace U := Lib.hid (U.out.then0 h2); clear h1 h2 h3)
      go_ret
      exact ⟨_, List.replicate 11 0, _, rfl, O.out.ints, by simp, UA.out.after0 U.out HgF.out⟩
  · go_wp2_with fail
    go_ret
    exact ⟨_, zs, _, rfl, HX.out _ U.out, by omega, UA.out.after0 U.out HgF.out⟩
end Go.Proofs.Ytiiljmaianfdeaa
