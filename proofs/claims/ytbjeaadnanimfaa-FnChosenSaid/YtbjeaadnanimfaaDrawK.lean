/- Chapter 5: draws of stocks. -/
import Derived.Test.YtbjeaadnanimfaaStock
import Derived.Test.YtbjeaadnanimfaaDraw3
import Derived.Deep.RegionWith
import Derived.Deep.CutBlock
namespace Go.Proofs.Ytbjeaadnanimfaa
open Go.RowKit
set_option linter.unusedVariables false
set_option linter.unusedSimpArgs false

set_option maxRecDepth 20000 in
set_option maxHeartbeats 3200000 in
theorem l05DrawStock_c (g : Nat) (a : Option Addr) (c : Nat) (bs : List Int) (w : World) (h : DC w g a c bs) : Calls Try.prog 34 #[.pointer (some ⟨g, 0, none⟩)] w (DrawL 0 30 w g a c bs) := by
  have D := Lib.hid (h.kept0 ((Upd.refl w).alloc (.cells #[] 2)))
  have HgB : Hid (∀ k, k ∈ [g] → k < w.heap.size) := fun k hk => by rw [List.mem_singleton.1 hk]; exact h.lt
  have U : Hid (Upd [g] w (w.alloc (.cells #[] 2))) := ((Upd.refl w).alloc _).mono (by simp)
  have O := Lib.hid (OwnI.lit (Upd.refl w))
  clear h
  go_enter Try.func34, Try.ntmps34
  go_wp2_with fail
  refine (l01Next_c g a c bs _ _ D.out).mono ?_
  rintro e wn ⟨b, rfl, hb, hd, hu⟩
  replace D := Lib.hid hd
  replace U := Lib.hid (U.out.then1 hu)
  replace O := Lib.hid (O.out.kept hu HgB.out)
  clear hd hu
  go_wp2_with fail
  clear hb
  refine (l01Next_c g a c bs _ _ D.out).mono ?_
  rintro e wn ⟨n, rfl, hn, hd, hu⟩
  replace D := Lib.hid hd
  replace U := Lib.hid (U.out.then1 hu)
  replace O := Lib.hid (O.out.kept hu HgB.out)
  clear hd hu
  go_wp2_with fail
  obtain ⟨N, hN⟩ : ∃ N : Nat, n = N := ⟨n.toNat, by omega⟩
  subst hN
  have hN2 : N ≤ 19 := by omega
  clear hn
  have O2 : Hid (∃ xs, OwnI wn w.heap.size (.slice (some ⟨w.heap.size, 0, none⟩) 0 0) xs ∧ xs.length + N ≤ 19) := ⟨[], O.out, by simpa using hN2⟩
  clear O
  go_loopw [3, 4, 5] (fun v n0 i wr => ∃ (m : Nat) (n : Int), m ≤ N ∧ i = .int .i64 m ∧ n0 = .int .i64 n ∧ Hid (∃ xs, OwnI wr w.heap.size v xs ∧ xs.length + m ≤ 19) ∧ Hid (DC wr g a c bs) ∧ Hid (Upd [g] w wr)) (fun _ _ i _ => (intOf i).toNat)
  case atStart => exact ⟨N, _, Nat.le_refl _, rfl, rfl, O2, D, U⟩
  case round =>
    clear O2 D U
    obtain ⟨m, n, hm, rfl, rfl, O2, D, U⟩ := hrel
    obtain ⟨xs, ho, hl⟩ := O2.out
    have O := Lib.hid ho
    have HL := Lib.hid hl
    clear ho hl O2
    by_cases hm0 : 0 < m
    · skip
      go_wp2_with (at_builtin; refine wpList_appB rfl _ _ rfl _ _ _ rfl rfl O.out U.out.size (by (have := HL.out; omega)) ?_; intro v' w9 z1 z2; have Z1 := Lib.hid z1; have DZ := Lib.hid (D.out.kept z2 (fun k hk => by have := (O.out.low k (Option.mem_toList.1 hk)); have := HgB.out g (by simp); omega)); have UZ := Lib.hid (U.out.afterB z2 (fun k hk => O.out.low k (Option.mem_toList.1 hk))); clear z1 z2)
      have HZ : Hid ((xs ++ [n]).length + (m - 1) ≤ 19) := by have := HL.out; show _ ≤ _; simp; omega
      generalize xs ++ [n] = zs at Z1 HZ
      clear D U O HL
      have D := DZ
      have U := UZ
      have O := Z1
      clear DZ UZ Z1
      refine (l01Next_c g a c bs _ _ D.out).mono ?_
      rintro e wn ⟨y, rfl, hy, hd, hu⟩
      replace D := Lib.hid hd
      replace U := Lib.hid (U.out.then1 hu)
      replace O := Lib.hid (O.out.kept hu HgB.out)
      clear hd hu
      have hwy : IntKind.i64.wrap (y + 1) = y + 1 := IntWalk.i64_in _ (by omega)
      clear hy
      go_wp2_with fail
      refine (l01Pick_c g a c bs _ _ [10, 20, 5, y + 1] _ (D.out.kept0 ((Upd.refl _).alloc _)) (lit_ints _ [10, 20, 5, y + 1]) (fun ad e => by cases e; exact D.out.lt) (by simp) (by simp)).mono ?_
      rintro e wn ⟨z, rfl, hz, hd, hu⟩
      replace D := Lib.hid hd
      replace U := Lib.hid ((U.out.alloc _).then1 hu)
      replace O := Lib.hid ((O.out.kept0 ((Upd.refl _).alloc _)).kept hu HgB.out)
      clear hd hu
      clear hz
      go_wp2_with fail
      go_roundw
      case rel => exact ⟨m - 1, _, by omega, by go_num, rfl, ⟨zs, O.out, HZ.out⟩, D, U⟩
      case measure => simp [intOf]; omega
    · obtain rfl : m = 0 := by omega
      clear hm0
      go_wp2_with fail
      refine (l01Next_c g a c bs _ _ D.out).mono ?_
      rintro e wn ⟨k, rfl, hk, hd, hu⟩
      replace D := Lib.hid hd
      replace U := Lib.hid (U.out.then1 hu)
      replace O := Lib.hid (O.out.kept hu HgB.out)
      clear hd hu
      clear hk
      by_cases k0 : k = 0
      · subst k0
        go_wp2_with fail
        refine (l01Pick_c g a c bs _ _ [0, 5000, 5001] _ (D.out.kept0 ((Upd.refl _).alloc _)) (lit_ints _ [0, 5000, 5001]) (fun ad e => by cases e; exact D.out.lt) (by simp) (by simp)).mono ?_
        rintro e wn ⟨z, rfl, hz, hd, hu⟩
        replace D := Lib.hid hd
        replace U := Lib.hid ((U.out.alloc _).then1 hu)
        replace O := Lib.hid ((O.out.kept0 ((Upd.refl _).alloc _)).kept hu HgB.out)
        clear hd hu
        clear hz
        go_wp2_with (at_builtin; refine wpList_appB rfl _ _ rfl _ _ _ rfl rfl O.out U.out.size (by (have := HL.out; omega)) ?_; intro v' w9 z1 z2; have Z1 := Lib.hid z1; have DZ := Lib.hid (D.out.kept z2 (fun k hk => by have := (O.out.low k (Option.mem_toList.1 hk)); have := HgB.out g (by simp); omega)); have UZ := Lib.hid (U.out.afterB z2 (fun k hk => O.out.low k (Option.mem_toList.1 hk))); clear z1 z2)
        go_ret
        exact ⟨_, _, rfl, Z1.out, by have := HL.out; simp; omega, DZ.out, UZ.out⟩
      · by_cases k1 : k = 1
        · subst k1
          go_wp2_with (at_make; refine wpList_mkI rfl _ _ rfl .i64 .i64 2 rfl rfl (by omega) (Upd.refl _) ?_; intro w9 h1 h2 h3; have O9 := Lib.hid (h1.mono U.out.size); replace D := Lib.hid (D.out.kept0 h2); replace U := Lib.hid (U.out.then0 h2); clear h1 h2 h3)
          go_ret
          exact ⟨_, _, rfl, O9.out, by simp, D.out, U.out⟩
        · go_wp2_with fail
          go_ret
          exact ⟨_, _, rfl, O.out, by have := HL.out; omega, D.out, U.out⟩
/-- A stock and a number are drawn. -/
def StkD (w : World) (e : Ending) (w' : World) : Prop :=
  ∃ (p : Option Addr) (c : Nat) (xs : List Int) (n : Int), e = .returned (.tuple #[.slice p xs.length c, .int .i64 n]) ∧ IntsAt w' p xs ∧ xs.length ≤ 40 ∧ Upd [] w w'
set_option maxRecDepth 20000 in
set_option maxHeartbeats 3200000 in
theorem DrawChooseSpoke_c (a : Option Addr) (c : Nat) (bs : List Int) (w : World) (hc : U8At w a bs) (hl : bs.length ≤ 4096) : Calls Try.prog 7 #[.slice a bs.length c] w (StkD w) := by
  have HC := Lib.hid hc
  clear hc
  go_enter Try.func7, Try.ntmps7
  go_wp2_with fail
  refine (l01From_c a c bs _ HC.out hl).mono ?_
  rintro e wn ⟨g, rfl, hg, hd, hu⟩
  have D := Lib.hid hd
  have UF := Lib.hid hu
  obtain ⟨w1, ew1⟩ : ∃ x : World, x = wn := ⟨_, rfl⟩
  subst ew1
  have U : Hid (Upd [g] w1 w1) := (Upd.refl w1).mono (by simp)
  have HgB : Hid (∀ k, k ∈ [g] → k < w1.heap.size) := fun k hk => by rw [List.mem_singleton.1 hk]; exact hd.lt
  have HgF : Hid (∀ k, k ∈ [g] → w.heap.size ≤ k) := fun k hk => by rw [List.mem_singleton.1 hk]; exact hg
  clear hd hu
  go_wp2_with fail
  refine (l05DrawStock_c g a c bs _ D.out).mono ?_
  rintro e wn ⟨v, xs, rfl, ho, lxs, hd, hu⟩
  replace D := Lib.hid hd
  have O := Lib.hid (ho.mono U.out.size)
  replace U := Lib.hid (U.out.then1 hu)
  obtain ⟨pv, dv, ev⟩ := ho.form
  subst ev
  clear ho hd hu
  clear HC hg hl
  by_cases hx0 : xs.length = 0
  · obtain rfl : xs = [] := List.eq_nil_of_length_eq_zero hx0
    clear hx0 lxs
    go_wp2_with fail
    refine (l01Next_c g a c bs _ _ D.out).mono ?_
    rintro e wn ⟨y, rfl, hy, hd, hu⟩
    replace D := Lib.hid hd
    replace U := Lib.hid (U.out.then1 hu)
    replace O := Lib.hid (O.out.kept hu HgB.out)
    clear hd hu
    clear hy
    go_wp2_with fail
    refine (l01Pick_c g a c bs _ _ [y, 5000, 5001, -1, 2600] _ (D.out.kept0 ((Upd.refl _).alloc _)) (lit_ints _ [y, 5000, 5001, -1, 2600]) (fun ad e => by cases e; exact D.out.lt) (by simp) (by simp)).mono ?_
    rintro e wn ⟨z, rfl, hz, hd, hu⟩
    replace D := Lib.hid hd
    replace U := Lib.hid ((U.out.alloc _).then1 hu)
    replace O := Lib.hid ((O.out.kept0 ((Upd.refl _).alloc _)).kept hu HgB.out)
    clear hd hu
    clear hz
    go_wp2_with fail
    go_ret2
    exact ⟨_, _, [], _, rfl, O.out.ints, by simp, UF.out.after0 U.out HgF.out⟩
  · have hpos : 0 < xs.length := by omega
    obtain ⟨gb, gc, ev, hgb1, hgb2⟩ := O.out.row hpos
    cases ev
    have i0 : (0 : Int) < (xs.length : Int) := by omega
    clear hx0
    go_wp2_with fail
    refine (l01Next_c g a c bs _ _ D.out).mono ?_
    rintro e wn ⟨y, rfl, hy, hd, hu⟩
    replace D := Lib.hid hd
    replace U := Lib.hid (U.out.then1 hu)
    replace O := Lib.hid (O.out.kept hu HgB.out)
    clear hd hu
    clear hy
    by_cases hy : y = 0
    · subst hy
      obtain ⟨w5, ew5⟩ : ∃ x : World, x = wn := ⟨_, rfl⟩
      subst ew5
      have DD : Hid (∀ w', Upd [] w5 w' → DC w' g a c bs) := fun w' u => D.out.kept0 u
      have HXS : Hid (∀ k : Nat, k < xs.length → xs[k]? = some (xs.getD k 0)) := fun k hk => by rw [List.getD_eq_getElem?_getD, List.getElem?_eq_getElem hk]; rfl
      clear D hgb1 hgb2
      go_wp2_with fail
      go_region_with (first
        | (go_at_call 35
           refine (l01Next_c g a c bs _ _ D6.out).mono ?_
           rintro e w7 ⟨t, rfl, ht, hd, hu⟩
           have V7 := Lib.hid (V6.out.then1 hu)
           have O7 := Lib.hid (O.out.kept V7.out HgB.out)
           have hc7 := O7.out.cell (HXS.out j hj)
           clear hd hu ht)
        | (go_at_call 35
           refine (l01Next_c g a c bs _ _ (DD.out _ (Upd.refl _).drew)).mono ?_
           rintro e w6 ⟨t, rfl, ht, hd, hu⟩
           obtain ⟨j, rfl⟩ : ∃ j : Nat, t = j := ⟨t.toNat, by omega⟩
           have hj : j < xs.length := by omega
           have i1 : (0 : Int) ≤ (j : Int) := by omega
           have i2 : (j : Int) < (xs.length : Int) := by omega
           have D6 := Lib.hid hd
           have V6 := Lib.hid (((Upd.refl w5).drew.mono (hs := [g]) (by simp)).then1 hu)
           have O6 := Lib.hid (O.out.kept V6.out HgB.out)
           have hc6 := O6.out.cell (HXS.out j hj)
           clear hd hu ht))
      all_goals
        go_wp2_with fail
        go_ret2
        exact ⟨_, _, xs, _, rfl, O7.out.ints, by omega, UF.out.after0 (U.out.then1 V7.out) HgF.out⟩
    · go_wp2_with fail
      clear hy
      refine (l01Next_c g a c bs _ _ D.out).mono ?_
      rintro e wn ⟨y2, rfl, hy2, hd, hu⟩
      replace D := Lib.hid hd
      replace U := Lib.hid (U.out.then1 hu)
      replace O := Lib.hid (O.out.kept hu HgB.out)
      clear hd hu
      clear hy2
      go_wp2_with fail
      refine (l01Pick_c g a c bs _ _ [y2, 5000, 5001, -1, 2600] _ (D.out.kept0 ((Upd.refl _).alloc _)) (lit_ints _ [y2, 5000, 5001, -1, 2600]) (fun ad e => by cases e; exact D.out.lt) (by simp) (by simp)).mono ?_
      rintro e wn ⟨z, rfl, hz, hd, hu⟩
      replace D := Lib.hid hd
      replace U := Lib.hid ((U.out.alloc _).then1 hu)
      replace O := Lib.hid ((O.out.kept0 ((Upd.refl _).alloc _)).kept hu HgB.out)
      clear hd hu
      clear hz
      go_wp2_with fail
      go_ret2
      exact ⟨_, _, xs, _, rfl, O.out.ints, by omega, UF.out.after0 U.out HgF.out⟩
end Go.Proofs.Ytbjeaadnanimfaa
